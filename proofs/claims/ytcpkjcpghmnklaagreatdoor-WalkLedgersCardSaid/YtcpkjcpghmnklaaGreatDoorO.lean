/- Walks: hayloftref03.Less. -/
import Derived.Test.YtcpkjcpghmnklaaGreatDoorM
import Derived.Test.YtcpkjcpghmnklaaGreatDoorF
set_option linter.all false

/- Walks: hayloftref03.Less. -/
namespace Go.Proofs.Tz
open Go Go.AM
set_option maxRecDepth 100000

/-- A name's bytes as cells. -/
def hv (h : List Nat) : List V := h.map fun b => .i .u8 (.ofNat b)
theorem hv_get (h : List Nat) (i : Nat) (hi : i < h.length) : (hv h)[i]? = some (.i .u8 (h[i] : Nat)) := by
  unfold hv; rw [List.getElem?_map, List.getElem?_eq_getElem hi]; rfl
theorem hv_len (h : List Nat) : (hv h).length = h.length := by simp [hv]

/-- Is one name ahead of another one? From a place on. -/
def ltH (a b : List Nat) : Bool :=
  match a, b with
  | x :: xs, y :: ys => if x = y then ltH xs ys else decide (x < y)
  | _, _ => false

@[go_sem] theorem agg_24 : E.agg 24 = some true := by kernel_rfl
@[go_sem] theorem size_24 : E.size 24 = some 32 := by kernel_rfl
@[go_sem] theorem agg_5 : E.agg 5 = some false := by kernel_rfl
@[go_sem] theorem size_5 : E.size 5 = some 1 := by kernel_rfl
@[go_sem] theorem und_24 : E.und 24 = some (.array 32 5) := by kernel_rfl

theorem less_to {T : Tr Ctr} {a b : List Nat} (ha : a.length = 32) (hb : b.length = 32) {σ : St} (hn : σ.next + 2 ≤ big) :
    FnTo E T 18 [.ag (hv a), .ag (hv b)] σ fun v σ' => v = .b (ltH a b) ∧ Grow σ σ' ∧ σ'.next = σ.next + 2 := by
  refine fnTo (fn := Tryz.f18) (by kernel_rfl) rfl (by kernel_rfl) ?_
  rw [show Tryz.f18.ntmps = 24 from rfl]
  simp only [Tr.ofList]
  ((repeat refine codeTo_seq ?_); refine codeTo_region (by kernel_rfl) ?_)
  (repeat (first | refine opsTo_nil ?_ | (refine sV rfl rfl ?_; simp only [go_sem, List.getElem?_toArray, Int.ofNat_eq_natCast, reduceIte, Nat.reduceEqDiff, Nat.reduceAdd, List.getElem?_cons_zero, List.getElem?_cons_succ, Bool.not_true, Bool.not_false]) | (refine sR rfl rfl ?_; simp only [go_sem, List.getElem?_toArray, Int.ofNat_eq_natCast, reduceIte, Nat.reduceEqDiff, Nat.reduceAdd, List.getElem?_cons_zero, List.getElem?_cons_succ, Bool.not_true, Bool.not_false]) | (refine sM rfl rfl ?_; simp only [go_sem, List.getElem?_toArray, Int.ofNat_eq_natCast, reduceIte, Nat.reduceEqDiff, Nat.reduceAdd, List.getElem?_cons_zero, List.getElem?_cons_succ, Bool.not_true, Bool.not_false]) | (refine sVg rfl rfl ?_ ?_; (solve | simp only [go_sem, List.getElem?_toArray, Int.ofNat_eq_natCast, reduceIte, Nat.reduceEqDiff, Nat.reduceAdd, List.getElem?_cons_zero, List.getElem?_cons_succ, Bool.not_true, Bool.not_false]); simp only [go_sem, List.getElem?_toArray, Int.ofNat_eq_natCast, reduceIte, Nat.reduceEqDiff, Nat.reduceAdd, List.getElem?_cons_zero, List.getElem?_cons_succ, Bool.not_true, Bool.not_false]) | (refine sRg rfl rfl ?_ ?_; (solve | simp only [go_sem, List.getElem?_toArray, Int.ofNat_eq_natCast, reduceIte, Nat.reduceEqDiff, Nat.reduceAdd, List.getElem?_cons_zero, List.getElem?_cons_succ, Bool.not_true, Bool.not_false]); simp only [go_sem, List.getElem?_toArray, Int.ofNat_eq_natCast, reduceIte, Nat.reduceEqDiff, Nat.reduceAdd, List.getElem?_cons_zero, List.getElem?_cons_succ, Bool.not_true, Bool.not_false]) | (refine sS rfl rfl ?_ ?_; (solve | simp only [go_sem, List.getElem?_toArray, Int.ofNat_eq_natCast, reduceIte, Nat.reduceEqDiff, Nat.reduceAdd, List.getElem?_cons_zero, List.getElem?_cons_succ, Bool.not_true, Bool.not_false]); simp only [go_sem, List.getElem?_toArray, Int.ofNat_eq_natCast, reduceIte, Nat.reduceEqDiff, Nat.reduceAdd, List.getElem?_cons_zero, List.getElem?_cons_succ, Bool.not_true, Bool.not_false])))
  (try simp only [go_sem, List.getElem?_toArray, Int.ofNat_eq_natCast, reduceIte, Nat.reduceEqDiff, Nat.reduceAdd, List.getElem?_cons_zero, List.getElem?_cons_succ, Bool.not_true, Bool.not_false])
  ((repeat refine codeTo_seq ?_); refine codeTo_region (by kernel_rfl) ?_)
  (repeat (first | refine opsTo_nil ?_ | (refine sV rfl rfl ?_; simp only [go_sem, List.getElem?_toArray, Int.ofNat_eq_natCast, reduceIte, Nat.reduceEqDiff, Nat.reduceAdd, List.getElem?_cons_zero, List.getElem?_cons_succ, Bool.not_true, Bool.not_false]) | (refine sR rfl rfl ?_; simp only [go_sem, List.getElem?_toArray, Int.ofNat_eq_natCast, reduceIte, Nat.reduceEqDiff, Nat.reduceAdd, List.getElem?_cons_zero, List.getElem?_cons_succ, Bool.not_true, Bool.not_false]) | (refine sM rfl rfl ?_; simp only [go_sem, List.getElem?_toArray, Int.ofNat_eq_natCast, reduceIte, Nat.reduceEqDiff, Nat.reduceAdd, List.getElem?_cons_zero, List.getElem?_cons_succ, Bool.not_true, Bool.not_false]) | (refine sVg rfl rfl ?_ ?_; (solve | simp only [go_sem, List.getElem?_toArray, Int.ofNat_eq_natCast, reduceIte, Nat.reduceEqDiff, Nat.reduceAdd, List.getElem?_cons_zero, List.getElem?_cons_succ, Bool.not_true, Bool.not_false]); simp only [go_sem, List.getElem?_toArray, Int.ofNat_eq_natCast, reduceIte, Nat.reduceEqDiff, Nat.reduceAdd, List.getElem?_cons_zero, List.getElem?_cons_succ, Bool.not_true, Bool.not_false]) | (refine sRg rfl rfl ?_ ?_; (solve | simp only [go_sem, List.getElem?_toArray, Int.ofNat_eq_natCast, reduceIte, Nat.reduceEqDiff, Nat.reduceAdd, List.getElem?_cons_zero, List.getElem?_cons_succ, Bool.not_true, Bool.not_false]); simp only [go_sem, List.getElem?_toArray, Int.ofNat_eq_natCast, reduceIte, Nat.reduceEqDiff, Nat.reduceAdd, List.getElem?_cons_zero, List.getElem?_cons_succ, Bool.not_true, Bool.not_false]) | (refine sS rfl rfl ?_ ?_; (solve | simp only [go_sem, List.getElem?_toArray, Int.ofNat_eq_natCast, reduceIte, Nat.reduceEqDiff, Nat.reduceAdd, List.getElem?_cons_zero, List.getElem?_cons_succ, Bool.not_true, Bool.not_false]); simp only [go_sem, List.getElem?_toArray, Int.ofNat_eq_natCast, reduceIte, Nat.reduceEqDiff, Nat.reduceAdd, List.getElem?_cons_zero, List.getElem?_cons_succ, Bool.not_true, Bool.not_false])))
  (try simp only [go_sem, List.getElem?_toArray, Int.ofNat_eq_natCast, reduceIte, Nat.reduceEqDiff, Nat.reduceAdd, List.getElem?_cons_zero, List.getElem?_cons_succ, Bool.not_true, Bool.not_false])
  ((repeat refine codeTo_seq ?_); refine codeTo_block ?_)
  have g1 : ((σ.new (.cells (V.ag (hv a)).cells 24 .ex)).new (.cells (V.ag (hv b)).cells 24 .ex)).get σ.next = some (.cells (hv a) 24 .ex) := by
    rw [St.get_new, if_neg (by rw [St.new_next]; omega), St.get_new, if_pos rfl]; rfl
  have g2 : ((σ.new (.cells (V.ag (hv a)).cells 24 .ex)).new (.cells (V.ag (hv b)).cells 24 .ex)).get (σ.next + 1) = some (.cells (hv b) 24 .ex) := by
    rw [St.get_new]; exact if_pos rfl
  have gG : Grow σ ((σ.new (.cells (V.ag (hv a)).cells 24 .ex)).new (.cells (V.ag (hv b)).cells 24 .ex)) := (Grow.new _ _).new' _
  have gn : ((σ.new (.cells (V.ag (hv a)).cells 24 .ex)).new (.cells (V.ag (hv b)).cells 24 .ex)).next = σ.next + 2 := rfl
  generalize (σ.new (.cells (V.ag (hv a)).cells 24 .ex)).new (.cells (V.ag (hv b)).cells 24 .ex) = τ at g1 g2 gG gn
  refine atLoop (fun (i : Nat) tm σ' => σ' = τ ∧ i ≤ 32 ∧ ltH (a.drop i) (b.drop i) = ltH a b ∧ sl tm 2 = .p (some (σ.next, 0)) ∧ sl tm 3 = .p (some (σ.next + 1, 0)) ∧ sl tm 5 = .i .i64 (i : Nat)) 0
    ⟨rfl, by omega, rfl, by simp only [go_sem, List.getElem?_toArray, Int.ofNat_eq_natCast, reduceIte, Nat.reduceEqDiff, Nat.reduceAdd, List.getElem?_cons_zero, List.getElem?_cons_succ, Bool.not_true, Bool.not_false], by simp only [go_sem, List.getElem?_toArray, Int.ofNat_eq_natCast, reduceIte, Nat.reduceEqDiff, Nat.reduceAdd, List.getElem?_cons_zero, List.getElem?_cons_succ, Bool.not_true, Bool.not_false], by simp only [go_sem, List.getElem?_toArray, Int.ofNat_eq_natCast, reduceIte, Nat.reduceEqDiff, Nat.reduceAdd, List.getElem?_cons_zero, List.getElem?_cons_succ, Bool.not_true, Bool.not_false]; rfl⟩ ?_
  have hc1 := fun (k : List V → Option V) => cellsAt_go (k := k) g1
  have hc2 := fun (k : List V → Option V) => cellsAt_go (k := k) g2
  intro i
  generalize hk : 32 - i = k
  induction k generalizing i with
  | zero =>
    rintro tm _ ⟨rfl, h1, h2, t2, t3, t5⟩
    have hi : i = 32 := by omega
    subst hi
    have d : decide (((32 : Nat) : Int) < 32) = false := by decide
    ((repeat refine codeTo_seq ?_); refine codeTo_loop ?_)
    ((repeat refine codeTo_seq ?_); refine codeTo_region (by kernel_rfl) ?_)
    (repeat (first | refine opsTo_nil ?_ | (refine sV rfl rfl ?_; simp only [go_sem, List.getElem?_toArray, Int.ofNat_eq_natCast, reduceIte, Nat.reduceEqDiff, Nat.reduceAdd, List.getElem?_cons_zero, List.getElem?_cons_succ, Bool.not_true, Bool.not_false, t5, d]) | (refine sR rfl rfl ?_; simp only [go_sem, List.getElem?_toArray, Int.ofNat_eq_natCast, reduceIte, Nat.reduceEqDiff, Nat.reduceAdd, List.getElem?_cons_zero, List.getElem?_cons_succ, Bool.not_true, Bool.not_false, t5, d]) | (refine sM rfl rfl ?_; simp only [go_sem, List.getElem?_toArray, Int.ofNat_eq_natCast, reduceIte, Nat.reduceEqDiff, Nat.reduceAdd, List.getElem?_cons_zero, List.getElem?_cons_succ, Bool.not_true, Bool.not_false, t5, d]) | (refine sVg rfl rfl ?_ ?_; (solve | simp only [go_sem, List.getElem?_toArray, Int.ofNat_eq_natCast, reduceIte, Nat.reduceEqDiff, Nat.reduceAdd, List.getElem?_cons_zero, List.getElem?_cons_succ, Bool.not_true, Bool.not_false, t5, d]); simp only [go_sem, List.getElem?_toArray, Int.ofNat_eq_natCast, reduceIte, Nat.reduceEqDiff, Nat.reduceAdd, List.getElem?_cons_zero, List.getElem?_cons_succ, Bool.not_true, Bool.not_false, t5, d]) | (refine sRg rfl rfl ?_ ?_; (solve | simp only [go_sem, List.getElem?_toArray, Int.ofNat_eq_natCast, reduceIte, Nat.reduceEqDiff, Nat.reduceAdd, List.getElem?_cons_zero, List.getElem?_cons_succ, Bool.not_true, Bool.not_false, t5, d]); simp only [go_sem, List.getElem?_toArray, Int.ofNat_eq_natCast, reduceIte, Nat.reduceEqDiff, Nat.reduceAdd, List.getElem?_cons_zero, List.getElem?_cons_succ, Bool.not_true, Bool.not_false, t5, d]) | (refine sS rfl rfl ?_ ?_; (solve | simp only [go_sem, List.getElem?_toArray, Int.ofNat_eq_natCast, reduceIte, Nat.reduceEqDiff, Nat.reduceAdd, List.getElem?_cons_zero, List.getElem?_cons_succ, Bool.not_true, Bool.not_false, t5, d]); simp only [go_sem, List.getElem?_toArray, Int.ofNat_eq_natCast, reduceIte, Nat.reduceEqDiff, Nat.reduceAdd, List.getElem?_cons_zero, List.getElem?_cons_succ, Bool.not_true, Bool.not_false, t5, d])))
    (try simp only [go_sem, List.getElem?_toArray, Int.ofNat_eq_natCast, reduceIte, Nat.reduceEqDiff, Nat.reduceAdd, List.getElem?_cons_zero, List.getElem?_cons_succ, Bool.not_true, Bool.not_false])
    ((repeat refine codeTo_seq ?_); refine codeTo_cond (t := false) ?_ (fun h => by cases h) (fun _ => ?_)); (solve | simp only [go_sem, List.getElem?_toArray, Int.ofNat_eq_natCast, reduceIte, Nat.reduceEqDiff, Nat.reduceAdd, List.getElem?_cons_zero, List.getElem?_cons_succ, Bool.not_true, Bool.not_false])
    ((repeat refine codeTo_seq ?_); refine codeTo_exit ?_)
    (try simp only [go_sem, List.getElem?_toArray, Int.ofNat_eq_natCast, reduceIte, Nat.reduceEqDiff, Nat.reduceAdd, List.getElem?_cons_zero, List.getElem?_cons_succ, Bool.not_true, Bool.not_false])
    ((repeat refine codeTo_seq ?_); refine codeTo_region (by kernel_rfl) ?_)
    (repeat (first | refine opsTo_nil ?_ | (refine sV rfl rfl ?_; simp only [go_sem, List.getElem?_toArray, Int.ofNat_eq_natCast, reduceIte, Nat.reduceEqDiff, Nat.reduceAdd, List.getElem?_cons_zero, List.getElem?_cons_succ, Bool.not_true, Bool.not_false]) | (refine sR rfl rfl ?_; simp only [go_sem, List.getElem?_toArray, Int.ofNat_eq_natCast, reduceIte, Nat.reduceEqDiff, Nat.reduceAdd, List.getElem?_cons_zero, List.getElem?_cons_succ, Bool.not_true, Bool.not_false]) | (refine sM rfl rfl ?_; simp only [go_sem, List.getElem?_toArray, Int.ofNat_eq_natCast, reduceIte, Nat.reduceEqDiff, Nat.reduceAdd, List.getElem?_cons_zero, List.getElem?_cons_succ, Bool.not_true, Bool.not_false]) | (refine sVg rfl rfl ?_ ?_; (solve | simp only [go_sem, List.getElem?_toArray, Int.ofNat_eq_natCast, reduceIte, Nat.reduceEqDiff, Nat.reduceAdd, List.getElem?_cons_zero, List.getElem?_cons_succ, Bool.not_true, Bool.not_false]); simp only [go_sem, List.getElem?_toArray, Int.ofNat_eq_natCast, reduceIte, Nat.reduceEqDiff, Nat.reduceAdd, List.getElem?_cons_zero, List.getElem?_cons_succ, Bool.not_true, Bool.not_false]) | (refine sRg rfl rfl ?_ ?_; (solve | simp only [go_sem, List.getElem?_toArray, Int.ofNat_eq_natCast, reduceIte, Nat.reduceEqDiff, Nat.reduceAdd, List.getElem?_cons_zero, List.getElem?_cons_succ, Bool.not_true, Bool.not_false]); simp only [go_sem, List.getElem?_toArray, Int.ofNat_eq_natCast, reduceIte, Nat.reduceEqDiff, Nat.reduceAdd, List.getElem?_cons_zero, List.getElem?_cons_succ, Bool.not_true, Bool.not_false]) | (refine sS rfl rfl ?_ ?_; (solve | simp only [go_sem, List.getElem?_toArray, Int.ofNat_eq_natCast, reduceIte, Nat.reduceEqDiff, Nat.reduceAdd, List.getElem?_cons_zero, List.getElem?_cons_succ, Bool.not_true, Bool.not_false]); simp only [go_sem, List.getElem?_toArray, Int.ofNat_eq_natCast, reduceIte, Nat.reduceEqDiff, Nat.reduceAdd, List.getElem?_cons_zero, List.getElem?_cons_succ, Bool.not_true, Bool.not_false])))
    ((repeat refine codeTo_seq ?_); refine codeTo_ret ?_; (try simp only [andThen_ret, outOf_ret]))
    refine hands_tmp (ts := [4]) rfl trivial ?_
    (try simp only [go_sem, List.getElem?_toArray, Int.ofNat_eq_natCast, reduceIte, Nat.reduceEqDiff, Nat.reduceAdd, List.getElem?_cons_zero, List.getElem?_cons_succ, Bool.not_true, Bool.not_false, List.map, tuV])
    refine ⟨?_, gG, gn⟩
    rw [← h2, List.drop_of_length_le (by omega)]
    rfl
  | succ k ih =>
    rintro tm _ ⟨rfl, h1, h2, t2, t3, t5⟩
    have hi : i < 32 := by omega
    have d : decide (((i : Nat) : Int) < 32) = true := decide_eq_true (by omega)
    have ga := hv_get a i (by omega)
    have gb := hv_get b i (by omega)
    have na : a.drop i = a[i] :: a.drop (i + 1) := List.drop_eq_getElem_cons (by omega)
    have nb : b.drop i = b[i] :: b.drop (i + 1) := List.drop_eq_getElem_cons (by omega)
    have i1 : indexArr 32 1 (.p (some (σ.next, 0))) i = some (.p (some (σ.next, i))) := by rw [indexArr_go hi]; simp
    have i2 : indexArr 32 1 (.p (some (σ.next + 1, 0))) i = some (.p (some (σ.next + 1, i))) := by rw [indexArr_go hi]; simp
    ((repeat refine codeTo_seq ?_); refine codeTo_loop ?_)
    ((repeat refine codeTo_seq ?_); refine codeTo_region (by kernel_rfl) ?_)
    (repeat (first | refine opsTo_nil ?_ | (refine sV rfl rfl ?_; simp only [go_sem, List.getElem?_toArray, Int.ofNat_eq_natCast, reduceIte, Nat.reduceEqDiff, Nat.reduceAdd, List.getElem?_cons_zero, List.getElem?_cons_succ, Bool.not_true, Bool.not_false, t5, d]) | (refine sR rfl rfl ?_; simp only [go_sem, List.getElem?_toArray, Int.ofNat_eq_natCast, reduceIte, Nat.reduceEqDiff, Nat.reduceAdd, List.getElem?_cons_zero, List.getElem?_cons_succ, Bool.not_true, Bool.not_false, t5, d]) | (refine sM rfl rfl ?_; simp only [go_sem, List.getElem?_toArray, Int.ofNat_eq_natCast, reduceIte, Nat.reduceEqDiff, Nat.reduceAdd, List.getElem?_cons_zero, List.getElem?_cons_succ, Bool.not_true, Bool.not_false, t5, d]) | (refine sVg rfl rfl ?_ ?_; (solve | simp only [go_sem, List.getElem?_toArray, Int.ofNat_eq_natCast, reduceIte, Nat.reduceEqDiff, Nat.reduceAdd, List.getElem?_cons_zero, List.getElem?_cons_succ, Bool.not_true, Bool.not_false, t5, d]); simp only [go_sem, List.getElem?_toArray, Int.ofNat_eq_natCast, reduceIte, Nat.reduceEqDiff, Nat.reduceAdd, List.getElem?_cons_zero, List.getElem?_cons_succ, Bool.not_true, Bool.not_false, t5, d]) | (refine sRg rfl rfl ?_ ?_; (solve | simp only [go_sem, List.getElem?_toArray, Int.ofNat_eq_natCast, reduceIte, Nat.reduceEqDiff, Nat.reduceAdd, List.getElem?_cons_zero, List.getElem?_cons_succ, Bool.not_true, Bool.not_false, t5, d]); simp only [go_sem, List.getElem?_toArray, Int.ofNat_eq_natCast, reduceIte, Nat.reduceEqDiff, Nat.reduceAdd, List.getElem?_cons_zero, List.getElem?_cons_succ, Bool.not_true, Bool.not_false, t5, d]) | (refine sS rfl rfl ?_ ?_; (solve | simp only [go_sem, List.getElem?_toArray, Int.ofNat_eq_natCast, reduceIte, Nat.reduceEqDiff, Nat.reduceAdd, List.getElem?_cons_zero, List.getElem?_cons_succ, Bool.not_true, Bool.not_false, t5, d]); simp only [go_sem, List.getElem?_toArray, Int.ofNat_eq_natCast, reduceIte, Nat.reduceEqDiff, Nat.reduceAdd, List.getElem?_cons_zero, List.getElem?_cons_succ, Bool.not_true, Bool.not_false, t5, d])))
    (try simp only [go_sem, List.getElem?_toArray, Int.ofNat_eq_natCast, reduceIte, Nat.reduceEqDiff, Nat.reduceAdd, List.getElem?_cons_zero, List.getElem?_cons_succ, Bool.not_true, Bool.not_false])
    ((repeat refine codeTo_seq ?_); refine codeTo_cond (t := true) ?_ (fun _ => ?_) (fun h => by cases h)); (solve | simp only [go_sem, List.getElem?_toArray, Int.ofNat_eq_natCast, reduceIte, Nat.reduceEqDiff, Nat.reduceAdd, List.getElem?_cons_zero, List.getElem?_cons_succ, Bool.not_true, Bool.not_false])
    ((repeat refine codeTo_seq ?_); refine codeTo_skip ?_)
    (try simp only [go_sem, List.getElem?_toArray, Int.ofNat_eq_natCast, reduceIte, Nat.reduceEqDiff, Nat.reduceAdd, List.getElem?_cons_zero, List.getElem?_cons_succ, Bool.not_true, Bool.not_false])
    ((repeat refine codeTo_seq ?_); refine codeTo_block ?_)
    ((repeat refine codeTo_seq ?_); refine codeTo_draw0 [⟨0, .value, [], 0⟩, ⟨1, .value, [], 0⟩, ⟨2, .reads, [], 0⟩, ⟨3, .value, [], 0⟩, ⟨4, .value, [], 0⟩, ⟨5, .reads, [], 0⟩, ⟨6, .reads, [], 0⟩] (by kernel_rfl) (by kernel_rfl) ?_ ?_)
    · rw [gn]; omega
    (repeat (first | refine drawTo_nil ?_ | (refine dV rfl rfl rfl ?_; simp only [go_sem, List.getElem?_toArray, Int.ofNat_eq_natCast, reduceIte, Nat.reduceEqDiff, Nat.reduceAdd, List.getElem?_cons_zero, List.getElem?_cons_succ, Bool.not_true, Bool.not_false, t2, t3, t5, i1, i2, hc1, hc2, ga, gb]) | (refine dR rfl rfl rfl ?_; simp only [go_sem, List.getElem?_toArray, Int.ofNat_eq_natCast, reduceIte, Nat.reduceEqDiff, Nat.reduceAdd, List.getElem?_cons_zero, List.getElem?_cons_succ, Bool.not_true, Bool.not_false, t2, t3, t5, i1, i2, hc1, hc2, ga, gb]) | (refine dVg rfl rfl rfl ?_ ?_; (solve | simp only [go_sem, List.getElem?_toArray, Int.ofNat_eq_natCast, reduceIte, Nat.reduceEqDiff, Nat.reduceAdd, List.getElem?_cons_zero, List.getElem?_cons_succ, Bool.not_true, Bool.not_false, t2, t3, t5, i1, i2, hc1, hc2, ga, gb]); simp only [go_sem, List.getElem?_toArray, Int.ofNat_eq_natCast, reduceIte, Nat.reduceEqDiff, Nat.reduceAdd, List.getElem?_cons_zero, List.getElem?_cons_succ, Bool.not_true, Bool.not_false, t2, t3, t5, i1, i2, hc1, hc2, ga, gb]) | (refine dRg rfl rfl rfl ?_ ?_; (solve | simp only [go_sem, List.getElem?_toArray, Int.ofNat_eq_natCast, reduceIte, Nat.reduceEqDiff, Nat.reduceAdd, List.getElem?_cons_zero, List.getElem?_cons_succ, Bool.not_true, Bool.not_false, t2, t3, t5, i1, i2, hc1, hc2, ga, gb]); simp only [go_sem, List.getElem?_toArray, Int.ofNat_eq_natCast, reduceIte, Nat.reduceEqDiff, Nat.reduceAdd, List.getElem?_cons_zero, List.getElem?_cons_succ, Bool.not_true, Bool.not_false, t2, t3, t5, i1, i2, hc1, hc2, ga, gb]) | (refine dS rfl rfl rfl ?_ (by decide) ?_; (solve | simp only [go_sem, List.getElem?_toArray, Int.ofNat_eq_natCast, reduceIte, Nat.reduceEqDiff, Nat.reduceAdd, List.getElem?_cons_zero, List.getElem?_cons_succ, Bool.not_true, Bool.not_false, t2, t3, t5, i1, i2, hc1, hc2, ga, gb]); simp only [go_sem, List.getElem?_toArray, Int.ofNat_eq_natCast, reduceIte, Nat.reduceEqDiff, Nat.reduceAdd, List.getElem?_cons_zero, List.getElem?_cons_succ, Bool.not_true, Bool.not_false, t2, t3, t5, i1, i2, hc1, hc2, ga, gb])))
    (try simp only [go_sem, List.getElem?_toArray, Int.ofNat_eq_natCast, reduceIte, Nat.reduceEqDiff, Nat.reduceAdd, List.getElem?_cons_zero, List.getElem?_cons_succ, Bool.not_true, Bool.not_false])
    by_cases e : a[i] = b[i]
    · have de : decide (((a[i] : Nat) : Int) = ((b[i] : Nat) : Int)) = true := decide_eq_true (by omega)
      (try simp only [go_sem, List.getElem?_toArray, Int.ofNat_eq_natCast, reduceIte, Nat.reduceEqDiff, Nat.reduceAdd, List.getElem?_cons_zero, List.getElem?_cons_succ, Bool.not_true, Bool.not_false, de])
      ((repeat refine codeTo_seq ?_); refine codeTo_cond (t := false) ?_ (fun h => by cases h) (fun _ => ?_)); (solve | simp only [go_sem, List.getElem?_toArray, Int.ofNat_eq_natCast, reduceIte, Nat.reduceEqDiff, Nat.reduceAdd, List.getElem?_cons_zero, List.getElem?_cons_succ, Bool.not_true, Bool.not_false])
      ((repeat refine codeTo_seq ?_); refine codeTo_skip ?_)
      (try simp only [go_sem, List.getElem?_toArray, Int.ofNat_eq_natCast, reduceIte, Nat.reduceEqDiff, Nat.reduceAdd, List.getElem?_cons_zero, List.getElem?_cons_succ, Bool.not_true, Bool.not_false])
      ((repeat refine codeTo_seq ?_); refine codeTo_region (by kernel_rfl) ?_)
      have w1 := incr_i64 (a := i) (by omega)
      (repeat (first | refine opsTo_nil ?_ | (refine sV rfl rfl ?_; simp only [go_sem, List.getElem?_toArray, Int.ofNat_eq_natCast, reduceIte, Nat.reduceEqDiff, Nat.reduceAdd, List.getElem?_cons_zero, List.getElem?_cons_succ, Bool.not_true, Bool.not_false, t5, w1]) | (refine sR rfl rfl ?_; simp only [go_sem, List.getElem?_toArray, Int.ofNat_eq_natCast, reduceIte, Nat.reduceEqDiff, Nat.reduceAdd, List.getElem?_cons_zero, List.getElem?_cons_succ, Bool.not_true, Bool.not_false, t5, w1]) | (refine sM rfl rfl ?_; simp only [go_sem, List.getElem?_toArray, Int.ofNat_eq_natCast, reduceIte, Nat.reduceEqDiff, Nat.reduceAdd, List.getElem?_cons_zero, List.getElem?_cons_succ, Bool.not_true, Bool.not_false, t5, w1]) | (refine sVg rfl rfl ?_ ?_; (solve | simp only [go_sem, List.getElem?_toArray, Int.ofNat_eq_natCast, reduceIte, Nat.reduceEqDiff, Nat.reduceAdd, List.getElem?_cons_zero, List.getElem?_cons_succ, Bool.not_true, Bool.not_false, t5, w1]); simp only [go_sem, List.getElem?_toArray, Int.ofNat_eq_natCast, reduceIte, Nat.reduceEqDiff, Nat.reduceAdd, List.getElem?_cons_zero, List.getElem?_cons_succ, Bool.not_true, Bool.not_false, t5, w1]) | (refine sRg rfl rfl ?_ ?_; (solve | simp only [go_sem, List.getElem?_toArray, Int.ofNat_eq_natCast, reduceIte, Nat.reduceEqDiff, Nat.reduceAdd, List.getElem?_cons_zero, List.getElem?_cons_succ, Bool.not_true, Bool.not_false, t5, w1]); simp only [go_sem, List.getElem?_toArray, Int.ofNat_eq_natCast, reduceIte, Nat.reduceEqDiff, Nat.reduceAdd, List.getElem?_cons_zero, List.getElem?_cons_succ, Bool.not_true, Bool.not_false, t5, w1]) | (refine sS rfl rfl ?_ ?_; (solve | simp only [go_sem, List.getElem?_toArray, Int.ofNat_eq_natCast, reduceIte, Nat.reduceEqDiff, Nat.reduceAdd, List.getElem?_cons_zero, List.getElem?_cons_succ, Bool.not_true, Bool.not_false, t5, w1]); simp only [go_sem, List.getElem?_toArray, Int.ofNat_eq_natCast, reduceIte, Nat.reduceEqDiff, Nat.reduceAdd, List.getElem?_cons_zero, List.getElem?_cons_succ, Bool.not_true, Bool.not_false, t5, w1])))
      (try simp only [go_sem, List.getElem?_toArray, Int.ofNat_eq_natCast, reduceIte, Nat.reduceEqDiff, Nat.reduceAdd, List.getElem?_cons_zero, List.getElem?_cons_succ, Bool.not_true, Bool.not_false])
      refine ih (i + 1) (by omega) _ _ ⟨rfl, by omega, ?_, by simp only [go_sem, List.getElem?_toArray, Int.ofNat_eq_natCast, reduceIte, Nat.reduceEqDiff, Nat.reduceAdd, List.getElem?_cons_zero, List.getElem?_cons_succ, Bool.not_true, Bool.not_false, t2], by simp only [go_sem, List.getElem?_toArray, Int.ofNat_eq_natCast, reduceIte, Nat.reduceEqDiff, Nat.reduceAdd, List.getElem?_cons_zero, List.getElem?_cons_succ, Bool.not_true, Bool.not_false, t3], by simp only [go_sem, List.getElem?_toArray, Int.ofNat_eq_natCast, reduceIte, Nat.reduceEqDiff, Nat.reduceAdd, List.getElem?_cons_zero, List.getElem?_cons_succ, Bool.not_true, Bool.not_false]⟩
      rw [← h2, na, nb, ltH, if_pos e]
    · have de : decide (((a[i] : Nat) : Int) = ((b[i] : Nat) : Int)) = false := decide_eq_false (by omega)
      (try simp only [go_sem, List.getElem?_toArray, Int.ofNat_eq_natCast, reduceIte, Nat.reduceEqDiff, Nat.reduceAdd, List.getElem?_cons_zero, List.getElem?_cons_succ, Bool.not_true, Bool.not_false, de])
      ((repeat refine codeTo_seq ?_); refine codeTo_cond (t := true) ?_ (fun _ => ?_) (fun h => by cases h)); (solve | simp only [go_sem, List.getElem?_toArray, Int.ofNat_eq_natCast, reduceIte, Nat.reduceEqDiff, Nat.reduceAdd, List.getElem?_cons_zero, List.getElem?_cons_succ, Bool.not_true, Bool.not_false])
      ((repeat refine codeTo_seq ?_); refine codeTo_draw0 [⟨0, .value, [], 0⟩, ⟨1, .value, [], 0⟩, ⟨2, .reads, [], 0⟩, ⟨3, .value, [], 0⟩, ⟨4, .value, [], 0⟩, ⟨5, .reads, [], 0⟩, ⟨6, .value, [], 0⟩, ⟨7, .value, [], 0⟩] (by kernel_rfl) (by kernel_rfl) ?_ ?_)
      · rw [gn]; omega
      (repeat (first | refine drawTo_nil ?_ | (refine dV rfl rfl rfl ?_; simp only [go_sem, List.getElem?_toArray, Int.ofNat_eq_natCast, reduceIte, Nat.reduceEqDiff, Nat.reduceAdd, List.getElem?_cons_zero, List.getElem?_cons_succ, Bool.not_true, Bool.not_false, t2, t3, t5, i1, i2, hc1, hc2, ga, gb]) | (refine dR rfl rfl rfl ?_; simp only [go_sem, List.getElem?_toArray, Int.ofNat_eq_natCast, reduceIte, Nat.reduceEqDiff, Nat.reduceAdd, List.getElem?_cons_zero, List.getElem?_cons_succ, Bool.not_true, Bool.not_false, t2, t3, t5, i1, i2, hc1, hc2, ga, gb]) | (refine dVg rfl rfl rfl ?_ ?_; (solve | simp only [go_sem, List.getElem?_toArray, Int.ofNat_eq_natCast, reduceIte, Nat.reduceEqDiff, Nat.reduceAdd, List.getElem?_cons_zero, List.getElem?_cons_succ, Bool.not_true, Bool.not_false, t2, t3, t5, i1, i2, hc1, hc2, ga, gb]); simp only [go_sem, List.getElem?_toArray, Int.ofNat_eq_natCast, reduceIte, Nat.reduceEqDiff, Nat.reduceAdd, List.getElem?_cons_zero, List.getElem?_cons_succ, Bool.not_true, Bool.not_false, t2, t3, t5, i1, i2, hc1, hc2, ga, gb]) | (refine dRg rfl rfl rfl ?_ ?_; (solve | simp only [go_sem, List.getElem?_toArray, Int.ofNat_eq_natCast, reduceIte, Nat.reduceEqDiff, Nat.reduceAdd, List.getElem?_cons_zero, List.getElem?_cons_succ, Bool.not_true, Bool.not_false, t2, t3, t5, i1, i2, hc1, hc2, ga, gb]); simp only [go_sem, List.getElem?_toArray, Int.ofNat_eq_natCast, reduceIte, Nat.reduceEqDiff, Nat.reduceAdd, List.getElem?_cons_zero, List.getElem?_cons_succ, Bool.not_true, Bool.not_false, t2, t3, t5, i1, i2, hc1, hc2, ga, gb]) | (refine dS rfl rfl rfl ?_ (by decide) ?_; (solve | simp only [go_sem, List.getElem?_toArray, Int.ofNat_eq_natCast, reduceIte, Nat.reduceEqDiff, Nat.reduceAdd, List.getElem?_cons_zero, List.getElem?_cons_succ, Bool.not_true, Bool.not_false, t2, t3, t5, i1, i2, hc1, hc2, ga, gb]); simp only [go_sem, List.getElem?_toArray, Int.ofNat_eq_natCast, reduceIte, Nat.reduceEqDiff, Nat.reduceAdd, List.getElem?_cons_zero, List.getElem?_cons_succ, Bool.not_true, Bool.not_false, t2, t3, t5, i1, i2, hc1, hc2, ga, gb])))
      ((repeat refine codeTo_seq ?_); refine codeTo_ret ?_; (try simp only [andThen_ret, outOf_ret]))
      (try simp only [go_sem, List.getElem?_toArray, Int.ofNat_eq_natCast, reduceIte, Nat.reduceEqDiff, Nat.reduceAdd, List.getElem?_cons_zero, List.getElem?_cons_succ, Bool.not_true, Bool.not_false])
      refine hands_tmp (ts := [4]) rfl trivial ?_
      (try simp only [go_sem, List.getElem?_toArray, Int.ofNat_eq_natCast, reduceIte, Nat.reduceEqDiff, Nat.reduceAdd, List.getElem?_cons_zero, List.getElem?_cons_succ, Bool.not_true, Bool.not_false, List.map, tuV])
      refine ⟨?_, gG, gn⟩
      rw [← h2, na, nb, ltH, if_neg e]
      congr 1
      rw [Bool.eq_iff_iff]; simp
end Go.Proofs.Tz

/- Walks: names compared, rows of names. -/
namespace Go.Proofs.Tz
open Go Go.AM
set_option maxRecDepth 100000

@[go_sem] theorem und_5 : E.und 5 = some (.int .u8) := by kernel_rfl
@[go_sem] theorem und_28 : E.und 28 = some (.slice 24) := by kernel_rfl
theorem plain_24 : E.plain.get 24 = some () := by kernel_rfl

theorem allO_some {α : Type} {f : α → Option Bool} {p : α → Bool} : ∀ {l : List α}, (∀ x ∈ l, f x = some (p x)) → allO f l = some (l.all p) := by
  intro l
  induction l with
  | nil => intro _; rfl
  | cons x xs ih =>
    intro h
    simp only [allO, h x List.mem_cons_self, List.all_cons]
    cases p x with
    | true => simp only [ih fun y hy => h y (List.mem_cons_of_mem _ hy), Bool.true_and]
    | false => simp only [Bool.false_and]

theorem eqV_hash {σ : St} {n : Nat} {a b : List Nat} (ha : a.length = 32) (hb : b.length = 32) : eqV E σ (n + 2) 24 (.ag (hv a)) (.ag (hv b)) = some (decide (a = b)) := by
  rw [eqV, und_24]
  simp only [size_5]
  have hp : ∀ (c : List Nat), c.length = 32 → ∀ i, i < 32 → AM.part E 5 (hv c) (i * 1) = some (.i .u8 ((c.getD i 0 : Nat) : Int)) := by
    intro c hc i hi
    unfold AM.part
    rw [agg_5, size_5]
    show nth (hv c) (i * 1) = _
    rw [nth_eq, Nat.mul_one, hv_get c i (by omega), List.getD_eq_getElem?_getD, List.getElem?_eq_getElem (by omega)]
    rfl
  rw [allO_some (p := fun i => decide (a.getD i 0 = b.getD i 0))]
  · congr 1
    rw [Bool.eq_iff_iff]
    simp only [List.all_eq_true, List.mem_range, decide_eq_true_eq]
    constructor
    · intro h
      refine List.ext_getElem (by omega) (fun i h1 h2 => ?_)
      have := h i (by omega)
      rw [List.getD_eq_getElem?_getD, List.getD_eq_getElem?_getD, List.getElem?_eq_getElem h1, List.getElem?_eq_getElem h2] at this
      exact this
    · rintro rfl i _; rfl
  · intro i hi
    have hi := List.mem_range.1 hi
    rw [hp a ha i hi, hp b hb i hi]
    simp only
    rw [eqV, und_5]
    simp only [eqI_dec, show kEq .u8 .u8 = true from rfl, bcase_true]
    congr 1
    rw [Bool.eq_iff_iff]; simp; omega

theorem eqOther_hash {σ : St} {x y : Operand} {neg : Bool} {a b : List Nat} (ha : a.length = 32) (hb : b.length = 32) : eqOther E 24 x y neg (.ag (hv a)) (.ag (hv b)) σ = some (.b (if neg then !decide (a = b) else decide (a = b))) := by
  unfold eqOther
  have : eqGuardOk E 24 x y (.ag (hv a)) (.ag (hv b)) = true := by
    show (E.plain.get 24).isSome = true
    rw [plain_24]; rfl
  rw [this, bcase_true, eqV_hash (n := 10) ha hb]
  simp only [retB_eq]
  cases neg <;> rfl

/-- A row of names' cells. -/
def hvs (l : List (List Nat)) : List V := l.flatMap hv
def Len32 (l : List (List Nat)) : Prop := ∀ h ∈ l, h.length = 32
theorem hvs_len {l : List (List Nat)} (h : Len32 l) : (hvs l).length = l.length * 32 := by
  induction l with
  | nil => rfl
  | cons x xs ih =>
    have h1 := h x List.mem_cons_self
    have h2 := ih fun y hy => h y (List.mem_cons_of_mem _ hy)
    simp only [hvs, List.flatMap_cons, List.length_append, hv_len, List.length_cons] at h2 ⊢
    omega
theorem hvs_app (a b : List (List Nat)) : hvs (a ++ b) = hvs a ++ hvs b := by simp [hvs]
theorem hvs_take {l : List (List Nat)} (h : Len32 l) (k : Nat) : (hvs l).take (k * 32) = hvs (l.take k) := by
  induction l generalizing k with
  | nil => simp [hvs]
  | cons x xs ih =>
    have h1 := h x List.mem_cons_self
    have h2 := ih fun y hy => h y (List.mem_cons_of_mem _ hy)
    cases k with
    | zero => simp [hvs]
    | succ k =>
      have e : hvs (x :: xs) = hv x ++ hvs xs := by simp [hvs]
      have e2 : hvs ((x :: xs).take (k + 1)) = hv x ++ hvs (xs.take k) := by simp [hvs]
      rw [e, e2, List.take_append, hv_len, h1, List.take_of_length_le (by rw [hv_len]; omega), ← h2 k]
      congr 2
      omega
theorem hvs_drop {l : List (List Nat)} (h : Len32 l) (k : Nat) : (hvs l).drop (k * 32) = hvs (l.drop k) := by
  induction l generalizing k with
  | nil => simp [hvs]
  | cons x xs ih =>
    have h1 := h x List.mem_cons_self
    have h2 := ih fun y hy => h y (List.mem_cons_of_mem _ hy)
    cases k with
    | zero => simp [hvs]
    | succ k =>
      have e : hvs (x :: xs) = hv x ++ hvs xs := by simp [hvs]
      rw [e, List.drop_append, hv_len, h1, List.drop_eq_nil_of_le (by rw [hv_len]; omega), List.nil_append, List.drop_succ_cons, ← h2 k]
      congr 1
      omega
theorem hvs_one {l : List (List Nat)} (h : Len32 l) {i : Nat} (hi : i < l.length) : ((hvs l).drop (i * 32)).take 32 = hv l[i] := by
  rw [hvs_drop h, List.drop_eq_getElem_cons hi]
  have : hvs (l[i] :: l.drop (i + 1)) = hv l[i] ++ hvs (l.drop (i + 1)) := rfl
  have h1 : l[i].length = 32 := h _ (List.getElem_mem hi)
  rw [this, List.take_append_of_le_length (by rw [hv_len]; omega), List.take_of_length_le (by rw [hv_len]; omega)]
theorem Len32.take {l : List (List Nat)} (h : Len32 l) (k : Nat) : Len32 (l.take k) := fun x hx => h x (List.mem_of_mem_take hx)
theorem Len32.drop {l : List (List Nat)} (h : Len32 l) (k : Nat) : Len32 (l.drop k) := fun x hx => h x (List.mem_of_mem_drop hx)
theorem Len32.app {a b : List (List Nat)} (h : Len32 a) (h' : Len32 b) : Len32 (a ++ b) := fun x hx => (List.mem_append.1 hx).elim (h x) (h' x)
theorem Len32.one {a : List Nat} (h : a.length = 32) : Len32 [a] := fun x hx => by rw [List.mem_singleton.1 hx]; exact h

/-- A slice that reads as names. -/
inductive SlAt (σ : St) : V → List (List Nat) → Prop
  | nil (c : Nat) : SlAt σ (.sl none 0 (.ex c)) []
  | at (id off : Nat) (cap : Cap) (c : List V) (el : TypeId) (md : AM.Mode) (l : List (List Nat)) (hg : l = [] ∨ (id < σ.next ∧ σ.get id = some (.cells c el md) ∧ (c.drop off).take (l.length * 32) = hvs l ∧ off + l.length * 32 ≤ c.length)) : SlAt σ (.sl (some (id, off)) l.length cap) l

theorem take_sub {α : Type} {a : List α} {n i m : Nat} (h : i + m ≤ n) : ((a.take n).drop i).take m = (a.drop i).take m := by
  rw [List.drop_take, List.take_take, Nat.min_eq_left (by omega)]

theorem SlAt.elem {σ : St} {v : V} {l : List (List Nat)} (h : SlAt σ v l) (hl : Len32 l) {i : Nat} (hi : i < l.length) :
    ∃ id off c el md, indexSl 32 v i = some (.p (some (id, off))) ∧ id < σ.next ∧ σ.get id = some (.cells c el md) ∧ ∀ (k : List V → Option V), rangeK c off 32 k = k (hv l[i]) := by
  cases h with
  | nil c => simp at hi
  | «at» id off cap c el md _ hg =>
    rcases hg with rfl | ⟨h0, h1, h2, h3⟩
    · simp at hi
    · refine ⟨id, off + i * 32, c, el, md, indexSl_go hi, h0, h1, fun k => ?_⟩
      have hb : i * 32 + 32 ≤ l.length * 32 := by omega
      rw [rangeK_go (by omega)]
      congr 1
      rw [← hvs_one hl hi, ← h2, take_sub hb, List.drop_drop]

theorem SlAt.len {σ : St} {v : V} {l : List (List Nat)} (h : SlAt σ v l) : ∃ a cap, v = .sl a l.length cap := by
  cases h with
  | nil c => exact ⟨none, .ex c, rfl⟩
  | «at» id off cap c el md _ hg => exact ⟨some (id, off), cap, rfl⟩

/-- What an append takes from it. -/
theorem SlAt.cells {σ : St} {v : V} {l : List (List Nat)} (h : SlAt σ v l) (k : Nat → List V → Option Out) : argCells σ 32 v k = k l.length (hvs l) := by
  cases h with
  | nil c => rfl
  | «at» id off cap c el md _ hg =>
    show sliceCells σ 32 l.length (.sl (some (id, off)) l.length cap) (fun cs => k l.length cs) = _
    unfold sliceCells
    dsimp only
    rw [bcase_eq]
    by_cases h0 : l.length * 32 = 0
    · have hnil : l = [] := List.eq_nil_of_length_eq_zero (by omega)
      subst hnil
      rfl
    · rw [if_neg (by simpa using h0)]
      rcases hg with rfl | ⟨_, h1, h2, h3⟩
      · simp at h0
      · rw [cellsAt_go h1, rangeK_go (by omega), h2]

theorem SlAt.grow {σ σ' : St} {v : V} {l : List (List Nat)} (h : SlAt σ v l) (hg : Grow σ σ') : SlAt σ' v l := by
  cases h with
  | nil c => exact .nil c
  | «at» id off cap c el md _ h =>
    refine .at id off cap c el md l ?_
    rcases h with h | ⟨h0, h1, h2⟩
    · exact .inl h
    · exact .inr ⟨Nat.lt_of_lt_of_le h0 hg.le, by rw [hg.get _ h0]; exact h1, h2⟩

/-! ### Rows of the machine's own -/
def elem24 : Elem := { id := 24, size := 32, bytes := 32, zero := hv (List.replicate 32 0) }
theorem elem_24 : AM.elemOf E 24 = some elem24 := by kernel_rfl
theorem hv_one (h : List Nat) : allOne (hv h) = true := by
  induction h with
  | nil => rfl
  | cons x xs ih => exact ih
theorem allOne_app {a b : List V} (ha : allOne a = true) (hb : allOne b = true) : allOne (a ++ b) = true := by
  induction a with
  | nil => exact hb
  | cons x xs ih =>
    have ha' : bcase (oneV x) (allOne xs) false = true := ha
    obtain ⟨h1, h2⟩ := bcase_and ha'
    show bcase (oneV x) (allOne (xs ++ b)) false = true
    rw [h1, bcase_true, ih h2]
theorem hvs_allOne (l : List (List Nat)) : allOne (hvs l) = true := by
  induction l with
  | nil => rfl
  | cons x xs ih => exact allOne_app (hv_one x) ih

theorem small24 {n m : Nat} {new : List V} (h : n + m ≤ 1000000) (hl : new.length = m * 32) : small elem24 n m new = true := by
  unfold small
  simp only [Bool.and_eq_true]
  refine ⟨⟨?_, ?_⟩, ?_⟩
  · show Nat.ble ((n + m) * 32) 1000000000 = true; simp; omega
  · simp; omega
  · rw [lenL_eq, hl]; show Nat.beq (m * 32) (m * 32) = true; simp

/-- A new row, out of none (a slice of length 0). -/
theorem app_new {σ : St} {base : Option (Nat × Nat)} {l : List (List Nat)} (hl : Len32 l) (hb : l.length ≤ 1000000) (h0 : l ≠ []) :
    appendV elem24 (.sl base 0 (.ex 0)) l.length (hvs l) σ = some (.val (.sl (some (σ.next, 0)) l.length (.op 0)) (σ.new (.cells (hvs l) 24 (.op 32)))) := by
  have hpos : 0 < l.length := List.length_pos_iff.2 h0
  show appEx elem24 base 0 0 l.length (hvs l) σ = _
  unfold appEx
  rw [bcase_eq, if_neg (by simp; omega)]
  have hs : ∀ (k : List V → Option Out), sliceCells σ elem24.size 0 (.sl base 0 (.ex 0)) k = k [] := by
    intro k
    unfold sliceCells
    cases base with
    | none => rfl
    | some p => show bcase (Nat.beq (0 * 32) 0) (k []) _ = _; rfl
  rw [hs, small24 (by omega) (hvs_len hl), bcase_true]
  unfold growNew
  rw [forceV_eq, St.newK_eq]
  simp only [forceN_eq, List.nil_append, Nat.zero_add]
  rfl

theorem app_none {σ : St} {p : Nat × Nat} {md : AM.Mode} (hg : σ.get p.1 = some (.cells [] 24 md)) (hm : md = .ex) (hp : p.2 = 0) :
    appendV elem24 (.sl (some p) 0 (.ex 0)) 0 [] σ = some (.val (.sl (some p) 0 (.ex 0)) (σ.put p.1 (.cells [] 24 .ex))) := by
  subst hm
  show appEx elem24 (some p) 0 0 0 [] σ = _
  unfold appEx
  rw [bcase_eq, if_pos (by rfl)]
  dsimp only
  unfold writeK
  rw [hg, hp]
  dsimp only
  rw [bcase_eq, if_pos (by rfl), splK_eq, St.putK_eq, forceN_eq]
  rfl

/-- A row grows: the old one is gone. -/
theorem app_own {σ : St} {id : Nat} {l m : List (List Nat)} (hl : Len32 l) (hm : Len32 m) (hb : l.length + m.length ≤ 1000000) (h0 : m ≠ []) (hg : σ.get id = some (.cells (hvs l) 24 (.op 32))) :
    appendV elem24 (.sl (some (id, 0)) l.length (.op 0)) m.length (hvs m) σ = some (.val (.sl (some (σ.next, 0)) (l.length + m.length) (.op 0)) ((σ.del id).new (.cells (hvs l ++ hvs m) 24 (.op 32)))) := by
  have hpos : 0 < m.length := List.length_pos_iff.2 h0
  show appOp elem24 (id, 0) l.length 0 m.length (hvs m) σ = _
  unfold appOp
  rw [hg]
  dsimp only
  rw [bcase_eq, if_pos (by rfl), bcase_eq, if_neg (by simp; omega), bcase_eq, if_neg (by
    rw [lenL_eq, hvs_len hl]
    simp only [Nat.ble_eq, Nat.zero_add]
    show ¬ ((l.length + m.length) * 32 ≤ l.length * 32)
    omega)]
  have hs : ∀ (k : List V → Option Out), sliceCells σ elem24.size l.length (.sl (some (id, 0)) l.length (.op 0)) k = k (hvs l) := by
    intro k
    unfold sliceCells
    dsimp only
    rw [bcase_eq]
    by_cases hz : l.length * 32 = 0
    · have : l = [] := List.eq_nil_of_length_eq_zero (by omega)
      subst this
      rfl
    · rw [if_neg (by show ¬ Nat.beq (l.length * 32) 0 = true; simpa using hz), cellsAt_go hg, rangeK_go (by rw [hvs_len hl]; show l.length * 32 ≤ _; omega)]
      congr 1
      rw [List.drop_zero, List.take_of_length_le (by rw [hvs_len hl]; show _ ≤ l.length * 32; omega)]
  rw [hs, small24 hb (hvs_len hm), hvs_allOne, Bool.and_self, bcase_true, St.delK_eq]
  unfold growNew
  rw [forceV_eq, St.newK_eq]
  simp only [forceN_eq]
  rfl

/-- A row that an append may go on with: an empty one of length 0, or one of the machine's own; it is not at 'x'. -/
inductive Row (σ : St) (lo x : Nat) : V → List (List Nat) → Prop
  | e (id : Nat) (h : lo ≤ id) (hn : id < σ.next) (hx : id ≠ x) (hg : σ.get id = some (.cells [] 24 .ex)) : Row σ lo x (.sl (some (id, 0)) 0 (.ex 0)) []
  | o (id : Nat) (l : List (List Nat)) (h : lo ≤ id) (hn : id < σ.next) (hx : id ≠ x) (hg : σ.get id = some (.cells (hvs l) 24 (.op 32))) : Row σ lo x (.sl (some (id, 0)) l.length (.op 0)) l
theorem Row.put {σ : St} {lo x : Nat} {v : V} {l : List (List Nat)} (h : Row σ lo x v l) (b : Blk) : Row (σ.put x b) lo x v l := by
  cases h with
  | e id h hn hx hg => exact .e id h hn hx (by rw [St.get_put, if_neg hx]; exact hg)
  | o id _ h hn hx hg => exact .o id l h hn hx (by rw [St.get_put, if_neg hx]; exact hg)

theorem app_own0 {σ : St} {id : Nat} {l : List (List Nat)} (hg : σ.get id = some (.cells (hvs l) 24 (.op 32))) :
    appendV elem24 (.sl (some (id, 0)) l.length (.op 0)) 0 [] σ = some (.val (.sl (some (id, 0)) l.length (.op 0)) σ) := by
  show appOp elem24 (id, 0) l.length 0 0 [] σ = _
  unfold appOp
  rw [hg]
  dsimp only
  rw [bcase_eq, if_pos (by rfl), bcase_eq, if_pos (by rfl)]
  rfl

theorem app_row {σ τ : St} {x : Nat} {v : V} {l m : List (List Nat)} (hr : Row σ τ.next x v l) (hG : Grow τ σ) (hx : x < σ.next) (hl : Len32 l) (hm : Len32 m) (hb : l.length + m.length ≤ 1000000) :
    ∃ v' σ', appendV elem24 v m.length (hvs m) σ = some (.val v' σ') ∧ Row σ' τ.next x v' (l ++ m) ∧ Grow τ σ' ∧ σ.next ≤ σ'.next ∧ σ'.next ≤ σ.next + 1 := by
  cases hr with
  | e id h hn hxi hg =>
    by_cases h0 : m = []
    · subst h0
      refine ⟨_, _, app_none (p := (id, 0)) hg rfl rfl, .e id h hn hxi (by rw [St.get_put, if_pos rfl]), hG.put h, Nat.le_refl _, Nat.le_succ _⟩
    · refine ⟨_, _, app_new hm (by simpa using hb) h0, .o σ.next m hG.le (Nat.lt_succ_self _) (by omega) (by rw [St.get_new, if_pos rfl]), hG.new' _, Nat.le_succ _, Nat.le_refl _⟩
  | o id _ h hn hxi hg =>
    by_cases h0 : m = []
    · subst h0
      refine ⟨_, _, app_own0 hg, by rw [List.append_nil]; exact .o id l h hn hxi hg, hG, Nat.le_refl _, Nat.le_succ _⟩
    · have hlen : l.length + m.length = (l ++ m).length := by simp
      refine ⟨_, _, app_own hl hm hb h0 hg, ?_, (hG.del h).new' _, Nat.le_succ _, Nat.le_refl _⟩
      rw [hlen, ← hvs_app]
      refine .o σ.next (l ++ m) hG.le (Nat.lt_succ_self _) (by omega) (by rw [St.get_new]; exact if_pos rfl)

theorem wc_append {tm : Tr V} {σ : St} {x y : Nat} : (wc E (.call ⟨.builtin .append, #[.tmp x, .tmp y], #[28, 28]⟩)).run tm σ = argCells σ 32 (sl tm y) fun n new => appendV elem24 (sl tm x) n new σ := by
  simp only [wc, builtinW, appendC, und_28, elem_24, opc_sl, bindV_go]
  rfl
theorem eqb_hash (n : Nat) (h : List Nat) : eqb (n + 2) (.ag (hv h)) (.ag (hv h)) = true := by
  show eqbL (eqb (n + 1)) (hv h) (hv h) = true
  induction h with
  | nil => rfl
  | cons x xs ih =>
    show bcase (eqb (n + 1) (.i .u8 (.ofNat x)) (.i .u8 (.ofNat x))) (eqbL (eqb (n + 1)) (hv xs) (hv xs)) false = true
    have : eqb (n + 1) (.i .u8 (.ofNat x)) (.i .u8 (.ofNat x)) = true := by
      show (kEq .u8 .u8 && eqI (.ofNat x) (.ofNat x)) = true
      rw [eqI_dec]; simp [kEq, kNum]
    rw [this, bcase_true]
    exact ih
theorem spl_all : ∀ {a b : List V}, a.length = b.length → spl a 0 b = b := by
  intro a
  induction a with
  | nil => intro b h; cases b with
    | nil => rfl
    | cons y ys => simp at h
  | cons x xs ih => intro b h; cases b with
    | nil => simp at h
    | cons y ys => show y :: spl xs 0 ys = _; rw [ih (by simpa using h)]
theorem build0 {tm : Tr V} : (ac E (.buildSlice 28 0 #[])).run tm = some ⟨.cells [] 24 .ex, .sl 0 (.ex 0)⟩ := by kernel_rfl
theorem build1 {tm : Tr V} {t : Nat} {h : List Nat} (ht : sl tm t = .ag (hv h)) (hh : h.length = 32) : (ac E (.buildSlice 28 1 #[(0, .tmp t)])).run tm = some ⟨.cells (hv h) 24 .ex, .sl 1 (.ex 1)⟩ := by
  have e : (ac E (.buildSlice 28 1 #[(0, .tmp t)])).run tm = bindV ((opc E (.tmp t)).get tm) fun v => forceV (repC 1 (hv (List.replicate 32 0))) fun row => fillK (fun i => some (i * 32, 32)) row [(0, v)] fun cs => some { blk := .cells cs 24 .ex, how := .sl 1 (.ex 1) } := by kernel_rfl
  rw [e, opc_sl, ht, bindV_go, forceV_eq]
  show bcase (Nat.beq (lenL (hv h)) 32 && Nat.ble (0 * 32 + 32) (lenL (repC 1 (hv (List.replicate 32 0))))) (splK (repC 1 (hv (List.replicate 32 0))) (0 * 32) (hv h) _) none = _
  rw [lenL_eq, hv_len, hh, show (Nat.beq 32 32 && Nat.ble (0 * 32 + 32) (lenL (repC 1 (hv (List.replicate 32 0))))) = true from by kernel_rfl, bcase_true, splK_eq, Nat.zero_mul, spl_all (by rw [hv_len, hh]; rfl)]
  rfl

theorem slTake {id n k : Nat} (hk : k ≤ n) : sliceSl 32 none (some (.i .i64 (k : Int))) none (.sl (some (id, 0)) n (.op 0)) = some (.sl (some (id, 0)) k (.op 0)) := by
  show bcase (Nat.ble k n && Nat.ble 0 k) (retSl id (0 + 0 * 32) (k - 0) (.op (0 + 0))) none = _
  rw [bcase_eq, if_pos (by simp [hk]), retSl_eq]
  rfl
theorem slDrop {id n k : Nat} (hk : k ≤ n) : sliceSl 32 (some (.i .i64 (k : Int))) none none (.sl (some (id, 0)) n (.op 0)) = some (.sl (some (id, k * 32)) (n - k) (.op k)) := by
  show bcase (Nat.ble n n && Nat.ble k n) (retSl id (0 + k * 32) (n - k) (.op (0 + k))) none = _
  rw [bcase_eq, if_pos (by simp [hk]), retSl_eq, Nat.zero_add, Nat.zero_add]
theorem slTake0 : sliceSl 32 none (some (.i .i64 ((0 : Nat) : Int))) none (.sl none 0 (.ex 0)) = some (.sl none 0 (.ex 0)) := by kernel_rfl
theorem slDrop0 : sliceSl 32 (some (.i .i64 ((0 : Nat) : Int))) none none (.sl none 0 (.ex 0)) = some (.sl none 0 (.ex 0)) := by kernel_rfl

/-- A list of names that the machine has made. -/
inductive Own (σ : St) (lo : Nat) : V → List (List Nat) → Prop
  | nil : Own σ lo (.sl none 0 (.ex 0)) []
  | at (id : Nat) (l : List (List Nat)) (h : lo ≤ id) (hn : id < σ.next) (hg : σ.get id = some (.cells (hvs l) 24 (.op 32))) : Own σ lo (.sl (some (id, 0)) l.length (.op 0)) l
theorem Row.own {σ : St} {lo lo' x : Nat} {v : V} {l : List (List Nat)} (h : Row σ lo x v l) (h0 : l ≠ []) (hlo : lo' ≤ lo) : Own σ lo' v l := by
  cases h with
  | e id h hn hx hg => exact absurd rfl h0
  | o id _ h hn hx hg => exact .at id l (Nat.le_trans hlo h) hn hg
theorem Own.grow {σ σ' : St} {lo : Nat} {v : V} {l : List (List Nat)} (h : Own σ lo v l) (g : Grow σ σ') : Own σ' lo v l := by
  cases h with
  | nil => exact .nil
  | «at» id _ h hn hg => exact .at id l h (Nat.lt_of_lt_of_le hn g.le) (by rw [g.get _ hn]; exact hg)
theorem Own.slAt {σ : St} {lo : Nat} {v : V} {l : List (List Nat)} (h : Own σ lo v l) (hl : Len32 l) : SlAt σ v l := by
  cases h with
  | nil => exact .nil 0
  | «at» id _ h hn hg => exact .at id 0 (.op 0) _ _ _ l (.inr ⟨hn, hg, by rw [List.drop_zero, List.take_of_length_le (by rw [hvs_len hl]; exact Nat.le_refl _)], by rw [hvs_len hl]; omega⟩)
/-- Its first names, and the others. -/
theorem Own.cut {σ : St} {lo : Nat} {v : V} {l : List (List Nat)} (h : Own σ lo v l) (hl : Len32 l) {k : Nat} (hk : k ≤ l.length) :
    ∃ v1 v2, sliceSl 32 none (some (.i .i64 (k : Int))) none v = some v1 ∧ sliceSl 32 (some (.i .i64 (k : Int))) none none v = some v2 ∧ SlAt σ v1 (l.take k) ∧ SlAt σ v2 (l.drop k) := by
  cases h with
  | nil =>
    have : k = 0 := by simpa using hk
    subst this
    exact ⟨_, _, slTake0, slDrop0, .nil 0, .nil 0⟩
  | «at» id _ h hn hg =>
    refine ⟨_, _, slTake hk, slDrop hk, ?_, ?_⟩
    · have e : k = (l.take k).length := by simp; omega
      have e2 : (hvs l).take ((l.take k).length * 32) = hvs (l.take k) := by rw [← e, hvs_take hl]
      rw [show V.sl (some (id, 0)) k (.op 0) = V.sl (some (id, 0)) (l.take k).length (.op 0) by rw [← e]]
      exact .at id 0 (.op 0) _ _ _ (l.take k) (.inr ⟨hn, hg, by rw [List.drop_zero, e2], by rw [hvs_len hl, ← e]; omega⟩)
    · have e : l.length - k = (l.drop k).length := by simp
      rw [e]
      exact .at id (k * 32) (.op k) _ _ _ (l.drop k) (.inr ⟨hn, hg, by rw [hvs_drop hl, List.take_of_length_le (by rw [hvs_len (hl.drop k)]; exact Nat.le_refl _)], by rw [hvs_len hl, ← e]; omega⟩)
end Go.Proofs.Tz

/- Walks: hayloftref12.Sorted. -/
namespace Go.Proofs.Tz
open Go Go.AM
set_option maxRecDepth 100000

/-- How many names at the front are ahead of x. -/
def posH (x : List Nat) : List (List Nat) → Nat
  | [] => 0
  | y :: ys => if ltH y x then posH x ys + 1 else 0
theorem posH_le (x : List Nat) : ∀ l, posH x l ≤ l.length := by
  intro l
  induction l with
  | nil => exact Nat.le_refl _
  | cons y ys ih => unfold posH; split <;> simp <;> omega
def insH (x : List Nat) (l : List (List Nat)) : List (List Nat) :=
  if posH x l = l.length ∨ l[posH x l]? ≠ some x then l.take (posH x l) ++ [x] ++ l.drop (posH x l) else l
def sortedH (l : List (List Nat)) : List (List Nat) := l.foldl (fun out x => insH x out) []

theorem insH_len32 {x : List Nat} {l : List (List Nat)} (hx : x.length = 32) (hl : Len32 l) : Len32 (insH x l) := by
  unfold insH
  split
  · exact ((hl.take _).app (Len32.one hx)).app (hl.drop _)
  · exact hl
theorem insH_le (x : List Nat) (l : List (List Nat)) : (insH x l).length ≤ l.length + 1 := by
  unfold insH
  split
  · have := posH_le x l; simp; omega
  · omega

theorem posH_step {x : List Nat} {l : List (List Nat)} {k : Nat} (hk : k < l.length) (h : posH x l = k + posH x (l.drop k)) : posH x l = if ltH l[k] x then k + 1 + posH x (l.drop (k + 1)) else k := by
  rw [h, List.drop_eq_getElem_cons hk, posH]
  split <;> omega

theorem sorted_to {T : Tr Ctr} (hT : T.get 18 = none) {l : List (List Nat)} {v : V} {σ : St} (hl : Len32 l) (hvv : SlAt σ v l) (hs : l.length ≤ 1000) (hn : σ.next + l.length * (2 * l.length + 9) + 9 ≤ big) :
    FnTo E T 6 [v] σ fun v' σ' => Own σ' σ.next v' (sortedH l) ∧ Len32 (sortedH l) ∧ Grow σ σ' ∧ σ'.next ≤ σ.next + l.length * (2 * l.length + 9) := by
  refine fnTo (fn := Tryz.f6) (by kernel_rfl) rfl (by kernel_rfl) ?_
  rw [show Tryz.f6.ntmps = 60 from rfl]
  simp only [Tr.ofList]
  obtain ⟨va, vcap, rfl⟩ := hvv.len
  generalize hC : 2 * l.length + 9 = C at hn
  ((repeat refine codeTo_seq ?_); refine codeTo_region (by kernel_rfl) ?_)
  (repeat (first | refine opsTo_nil ?_ | (refine sV rfl rfl ?_; simp only [go_sem, List.getElem?_toArray, Int.ofNat_eq_natCast, reduceIte, Nat.reduceEqDiff, Nat.reduceAdd, List.getElem?_cons_zero, List.getElem?_cons_succ, Bool.not_true, Bool.not_false]) | (refine sR rfl rfl ?_; simp only [go_sem, List.getElem?_toArray, Int.ofNat_eq_natCast, reduceIte, Nat.reduceEqDiff, Nat.reduceAdd, List.getElem?_cons_zero, List.getElem?_cons_succ, Bool.not_true, Bool.not_false]) | (refine sM rfl rfl ?_; simp only [go_sem, List.getElem?_toArray, Int.ofNat_eq_natCast, reduceIte, Nat.reduceEqDiff, Nat.reduceAdd, List.getElem?_cons_zero, List.getElem?_cons_succ, Bool.not_true, Bool.not_false]) | (refine sVg rfl rfl ?_ ?_; (solve | simp only [go_sem, List.getElem?_toArray, Int.ofNat_eq_natCast, reduceIte, Nat.reduceEqDiff, Nat.reduceAdd, List.getElem?_cons_zero, List.getElem?_cons_succ, Bool.not_true, Bool.not_false]); simp only [go_sem, List.getElem?_toArray, Int.ofNat_eq_natCast, reduceIte, Nat.reduceEqDiff, Nat.reduceAdd, List.getElem?_cons_zero, List.getElem?_cons_succ, Bool.not_true, Bool.not_false]) | (refine sRg rfl rfl ?_ ?_; (solve | simp only [go_sem, List.getElem?_toArray, Int.ofNat_eq_natCast, reduceIte, Nat.reduceEqDiff, Nat.reduceAdd, List.getElem?_cons_zero, List.getElem?_cons_succ, Bool.not_true, Bool.not_false]); simp only [go_sem, List.getElem?_toArray, Int.ofNat_eq_natCast, reduceIte, Nat.reduceEqDiff, Nat.reduceAdd, List.getElem?_cons_zero, List.getElem?_cons_succ, Bool.not_true, Bool.not_false]) | (refine sS rfl rfl ?_ ?_; (solve | simp only [go_sem, List.getElem?_toArray, Int.ofNat_eq_natCast, reduceIte, Nat.reduceEqDiff, Nat.reduceAdd, List.getElem?_cons_zero, List.getElem?_cons_succ, Bool.not_true, Bool.not_false]); simp only [go_sem, List.getElem?_toArray, Int.ofNat_eq_natCast, reduceIte, Nat.reduceEqDiff, Nat.reduceAdd, List.getElem?_cons_zero, List.getElem?_cons_succ, Bool.not_true, Bool.not_false])))
  (try simp only [go_sem, List.getElem?_toArray, Int.ofNat_eq_natCast, reduceIte, Nat.reduceEqDiff, Nat.reduceAdd, List.getElem?_cons_zero, List.getElem?_cons_succ, Bool.not_true, Bool.not_false])
  ((repeat refine codeTo_seq ?_); refine codeTo_region (by kernel_rfl) ?_)
  (repeat (first | refine opsTo_nil ?_ | (refine sV rfl rfl ?_; simp only [go_sem, List.getElem?_toArray, Int.ofNat_eq_natCast, reduceIte, Nat.reduceEqDiff, Nat.reduceAdd, List.getElem?_cons_zero, List.getElem?_cons_succ, Bool.not_true, Bool.not_false]) | (refine sR rfl rfl ?_; simp only [go_sem, List.getElem?_toArray, Int.ofNat_eq_natCast, reduceIte, Nat.reduceEqDiff, Nat.reduceAdd, List.getElem?_cons_zero, List.getElem?_cons_succ, Bool.not_true, Bool.not_false]) | (refine sM rfl rfl ?_; simp only [go_sem, List.getElem?_toArray, Int.ofNat_eq_natCast, reduceIte, Nat.reduceEqDiff, Nat.reduceAdd, List.getElem?_cons_zero, List.getElem?_cons_succ, Bool.not_true, Bool.not_false]) | (refine sVg rfl rfl ?_ ?_; (solve | simp only [go_sem, List.getElem?_toArray, Int.ofNat_eq_natCast, reduceIte, Nat.reduceEqDiff, Nat.reduceAdd, List.getElem?_cons_zero, List.getElem?_cons_succ, Bool.not_true, Bool.not_false]); simp only [go_sem, List.getElem?_toArray, Int.ofNat_eq_natCast, reduceIte, Nat.reduceEqDiff, Nat.reduceAdd, List.getElem?_cons_zero, List.getElem?_cons_succ, Bool.not_true, Bool.not_false]) | (refine sRg rfl rfl ?_ ?_; (solve | simp only [go_sem, List.getElem?_toArray, Int.ofNat_eq_natCast, reduceIte, Nat.reduceEqDiff, Nat.reduceAdd, List.getElem?_cons_zero, List.getElem?_cons_succ, Bool.not_true, Bool.not_false]); simp only [go_sem, List.getElem?_toArray, Int.ofNat_eq_natCast, reduceIte, Nat.reduceEqDiff, Nat.reduceAdd, List.getElem?_cons_zero, List.getElem?_cons_succ, Bool.not_true, Bool.not_false]) | (refine sS rfl rfl ?_ ?_; (solve | simp only [go_sem, List.getElem?_toArray, Int.ofNat_eq_natCast, reduceIte, Nat.reduceEqDiff, Nat.reduceAdd, List.getElem?_cons_zero, List.getElem?_cons_succ, Bool.not_true, Bool.not_false]); simp only [go_sem, List.getElem?_toArray, Int.ofNat_eq_natCast, reduceIte, Nat.reduceEqDiff, Nat.reduceAdd, List.getElem?_cons_zero, List.getElem?_cons_succ, Bool.not_true, Bool.not_false])))
  (try simp only [go_sem, List.getElem?_toArray, Int.ofNat_eq_natCast, reduceIte, Nat.reduceEqDiff, Nat.reduceAdd, List.getElem?_cons_zero, List.getElem?_cons_succ, Bool.not_true, Bool.not_false])
  ((repeat refine codeTo_seq ?_); refine codeTo_region (by kernel_rfl) ?_)
  (repeat (first | refine opsTo_nil ?_ | (refine sV rfl rfl ?_; simp only [go_sem, List.getElem?_toArray, Int.ofNat_eq_natCast, reduceIte, Nat.reduceEqDiff, Nat.reduceAdd, List.getElem?_cons_zero, List.getElem?_cons_succ, Bool.not_true, Bool.not_false]) | (refine sR rfl rfl ?_; simp only [go_sem, List.getElem?_toArray, Int.ofNat_eq_natCast, reduceIte, Nat.reduceEqDiff, Nat.reduceAdd, List.getElem?_cons_zero, List.getElem?_cons_succ, Bool.not_true, Bool.not_false]) | (refine sM rfl rfl ?_; simp only [go_sem, List.getElem?_toArray, Int.ofNat_eq_natCast, reduceIte, Nat.reduceEqDiff, Nat.reduceAdd, List.getElem?_cons_zero, List.getElem?_cons_succ, Bool.not_true, Bool.not_false]) | (refine sVg rfl rfl ?_ ?_; (solve | simp only [go_sem, List.getElem?_toArray, Int.ofNat_eq_natCast, reduceIte, Nat.reduceEqDiff, Nat.reduceAdd, List.getElem?_cons_zero, List.getElem?_cons_succ, Bool.not_true, Bool.not_false]); simp only [go_sem, List.getElem?_toArray, Int.ofNat_eq_natCast, reduceIte, Nat.reduceEqDiff, Nat.reduceAdd, List.getElem?_cons_zero, List.getElem?_cons_succ, Bool.not_true, Bool.not_false]) | (refine sRg rfl rfl ?_ ?_; (solve | simp only [go_sem, List.getElem?_toArray, Int.ofNat_eq_natCast, reduceIte, Nat.reduceEqDiff, Nat.reduceAdd, List.getElem?_cons_zero, List.getElem?_cons_succ, Bool.not_true, Bool.not_false]); simp only [go_sem, List.getElem?_toArray, Int.ofNat_eq_natCast, reduceIte, Nat.reduceEqDiff, Nat.reduceAdd, List.getElem?_cons_zero, List.getElem?_cons_succ, Bool.not_true, Bool.not_false]) | (refine sS rfl rfl ?_ ?_; (solve | simp only [go_sem, List.getElem?_toArray, Int.ofNat_eq_natCast, reduceIte, Nat.reduceEqDiff, Nat.reduceAdd, List.getElem?_cons_zero, List.getElem?_cons_succ, Bool.not_true, Bool.not_false]); simp only [go_sem, List.getElem?_toArray, Int.ofNat_eq_natCast, reduceIte, Nat.reduceEqDiff, Nat.reduceAdd, List.getElem?_cons_zero, List.getElem?_cons_succ, Bool.not_true, Bool.not_false])))
  (try simp only [go_sem, List.getElem?_toArray, Int.ofNat_eq_natCast, reduceIte, Nat.reduceEqDiff, Nat.reduceAdd, List.getElem?_cons_zero, List.getElem?_cons_succ, Bool.not_true, Bool.not_false])
  ((repeat refine codeTo_seq ?_); refine codeTo_blockK (df := []) (fun tm σ' => Own σ' σ.next (sl tm 3) (sortedH l) ∧ Len32 (sortedH l) ∧ Grow σ σ' ∧ σ'.next ≤ σ.next + l.length * C) ?_ ?_)
  rotate_left
  · rintro tm σ' ⟨q1, q2, q3, q4⟩
    (try simp only [go_sem, List.getElem?_toArray, Int.ofNat_eq_natCast, reduceIte, Nat.reduceEqDiff, Nat.reduceAdd, List.getElem?_cons_zero, List.getElem?_cons_succ, Bool.not_true, Bool.not_false])
    ((repeat refine codeTo_seq ?_); refine codeTo_region (by kernel_rfl) ?_)
    (repeat (first | refine opsTo_nil ?_ | (refine sV rfl rfl ?_; simp only [go_sem, List.getElem?_toArray, Int.ofNat_eq_natCast, reduceIte, Nat.reduceEqDiff, Nat.reduceAdd, List.getElem?_cons_zero, List.getElem?_cons_succ, Bool.not_true, Bool.not_false]) | (refine sR rfl rfl ?_; simp only [go_sem, List.getElem?_toArray, Int.ofNat_eq_natCast, reduceIte, Nat.reduceEqDiff, Nat.reduceAdd, List.getElem?_cons_zero, List.getElem?_cons_succ, Bool.not_true, Bool.not_false]) | (refine sM rfl rfl ?_; simp only [go_sem, List.getElem?_toArray, Int.ofNat_eq_natCast, reduceIte, Nat.reduceEqDiff, Nat.reduceAdd, List.getElem?_cons_zero, List.getElem?_cons_succ, Bool.not_true, Bool.not_false]) | (refine sVg rfl rfl ?_ ?_; (solve | simp only [go_sem, List.getElem?_toArray, Int.ofNat_eq_natCast, reduceIte, Nat.reduceEqDiff, Nat.reduceAdd, List.getElem?_cons_zero, List.getElem?_cons_succ, Bool.not_true, Bool.not_false]); simp only [go_sem, List.getElem?_toArray, Int.ofNat_eq_natCast, reduceIte, Nat.reduceEqDiff, Nat.reduceAdd, List.getElem?_cons_zero, List.getElem?_cons_succ, Bool.not_true, Bool.not_false]) | (refine sRg rfl rfl ?_ ?_; (solve | simp only [go_sem, List.getElem?_toArray, Int.ofNat_eq_natCast, reduceIte, Nat.reduceEqDiff, Nat.reduceAdd, List.getElem?_cons_zero, List.getElem?_cons_succ, Bool.not_true, Bool.not_false]); simp only [go_sem, List.getElem?_toArray, Int.ofNat_eq_natCast, reduceIte, Nat.reduceEqDiff, Nat.reduceAdd, List.getElem?_cons_zero, List.getElem?_cons_succ, Bool.not_true, Bool.not_false]) | (refine sS rfl rfl ?_ ?_; (solve | simp only [go_sem, List.getElem?_toArray, Int.ofNat_eq_natCast, reduceIte, Nat.reduceEqDiff, Nat.reduceAdd, List.getElem?_cons_zero, List.getElem?_cons_succ, Bool.not_true, Bool.not_false]); simp only [go_sem, List.getElem?_toArray, Int.ofNat_eq_natCast, reduceIte, Nat.reduceEqDiff, Nat.reduceAdd, List.getElem?_cons_zero, List.getElem?_cons_succ, Bool.not_true, Bool.not_false])))
    ((repeat refine codeTo_seq ?_); refine codeTo_ret ?_; (try simp only [andThen_ret, outOf_ret]))
    refine hands_tmp (ts := [2]) rfl trivial ?_
    (try simp only [go_sem, List.getElem?_toArray, Int.ofNat_eq_natCast, reduceIte, Nat.reduceEqDiff, Nat.reduceAdd, List.getElem?_cons_zero, List.getElem?_cons_succ, Bool.not_true, Bool.not_false, List.map, tuV])
    exact ⟨q1, q2, q3, q4⟩
  refine atLoop (fun (x : Nat × List (List Nat) × V) tm σ' => x.1 ≤ l.length ∧ x.2.1.length ≤ x.1 ∧ Len32 x.2.1 ∧ (l.drop x.1).foldl (fun out x => insH x out) x.2.1 = sortedH l ∧ Own σ' σ.next x.2.2 x.2.1 ∧ Grow σ σ' ∧ σ'.next ≤ σ.next + x.1 * C
    ∧ sl tm 0 = .sl va l.length vcap ∧ sl tm 3 = x.2.2 ∧ sl tm 4 = .i .i64 (x.1 : Nat)) (0, [], .sl none 0 (.ex 0))
    ⟨Nat.zero_le _, Nat.zero_le _, (fun x hx => nomatch hx), rfl, .nil, Grow.refl _, by omega, by simp only [go_sem, List.getElem?_toArray, Int.ofNat_eq_natCast, reduceIte, Nat.reduceEqDiff, Nat.reduceAdd, List.getElem?_cons_zero, List.getElem?_cons_succ, Bool.not_true, Bool.not_false], by simp only [go_sem, List.getElem?_toArray, Int.ofNat_eq_natCast, reduceIte, Nat.reduceEqDiff, Nat.reduceAdd, List.getElem?_cons_zero, List.getElem?_cons_succ, Bool.not_true, Bool.not_false], by simp only [go_sem, List.getElem?_toArray, Int.ofNat_eq_natCast, reduceIte, Nat.reduceEqDiff, Nat.reduceAdd, List.getElem?_cons_zero, List.getElem?_cons_succ, Bool.not_true, Bool.not_false]; rfl⟩ ?_
  rintro ⟨i, out, vo⟩
  generalize hk : l.length - i = m
  induction m generalizing i out vo with
  | zero =>
    rintro tm τ ⟨h1, h2, h3, h4, h5, hG, hX, t0, t3, t4⟩
    dsimp only at h1 h2 h3 h4 h5 hX t3 t4
    have hi : i = l.length := by omega
    subst hi
    have d : decide ((l.length : Int) < (l.length : Int)) = false := decide_eq_false (by omega)
    ((repeat refine codeTo_seq ?_); refine codeTo_loop ?_)
    ((repeat refine codeTo_seq ?_); refine codeTo_region (by kernel_rfl) ?_)
    (repeat (first | refine opsTo_nil ?_ | (refine sV rfl rfl ?_; simp only [go_sem, List.getElem?_toArray, Int.ofNat_eq_natCast, reduceIte, Nat.reduceEqDiff, Nat.reduceAdd, List.getElem?_cons_zero, List.getElem?_cons_succ, Bool.not_true, Bool.not_false, t0, t3, t4, lenC, und_28, d]) | (refine sR rfl rfl ?_; simp only [go_sem, List.getElem?_toArray, Int.ofNat_eq_natCast, reduceIte, Nat.reduceEqDiff, Nat.reduceAdd, List.getElem?_cons_zero, List.getElem?_cons_succ, Bool.not_true, Bool.not_false, t0, t3, t4, lenC, und_28, d]) | (refine sM rfl rfl ?_; simp only [go_sem, List.getElem?_toArray, Int.ofNat_eq_natCast, reduceIte, Nat.reduceEqDiff, Nat.reduceAdd, List.getElem?_cons_zero, List.getElem?_cons_succ, Bool.not_true, Bool.not_false, t0, t3, t4, lenC, und_28, d]) | (refine sVg rfl rfl ?_ ?_; (solve | simp only [go_sem, List.getElem?_toArray, Int.ofNat_eq_natCast, reduceIte, Nat.reduceEqDiff, Nat.reduceAdd, List.getElem?_cons_zero, List.getElem?_cons_succ, Bool.not_true, Bool.not_false, t0, t3, t4, lenC, und_28, d]); simp only [go_sem, List.getElem?_toArray, Int.ofNat_eq_natCast, reduceIte, Nat.reduceEqDiff, Nat.reduceAdd, List.getElem?_cons_zero, List.getElem?_cons_succ, Bool.not_true, Bool.not_false, t0, t3, t4, lenC, und_28, d]) | (refine sRg rfl rfl ?_ ?_; (solve | simp only [go_sem, List.getElem?_toArray, Int.ofNat_eq_natCast, reduceIte, Nat.reduceEqDiff, Nat.reduceAdd, List.getElem?_cons_zero, List.getElem?_cons_succ, Bool.not_true, Bool.not_false, t0, t3, t4, lenC, und_28, d]); simp only [go_sem, List.getElem?_toArray, Int.ofNat_eq_natCast, reduceIte, Nat.reduceEqDiff, Nat.reduceAdd, List.getElem?_cons_zero, List.getElem?_cons_succ, Bool.not_true, Bool.not_false, t0, t3, t4, lenC, und_28, d]) | (refine sS rfl rfl ?_ ?_; (solve | simp only [go_sem, List.getElem?_toArray, Int.ofNat_eq_natCast, reduceIte, Nat.reduceEqDiff, Nat.reduceAdd, List.getElem?_cons_zero, List.getElem?_cons_succ, Bool.not_true, Bool.not_false, t0, t3, t4, lenC, und_28, d]); simp only [go_sem, List.getElem?_toArray, Int.ofNat_eq_natCast, reduceIte, Nat.reduceEqDiff, Nat.reduceAdd, List.getElem?_cons_zero, List.getElem?_cons_succ, Bool.not_true, Bool.not_false, t0, t3, t4, lenC, und_28, d])))
    (try simp only [go_sem, List.getElem?_toArray, Int.ofNat_eq_natCast, reduceIte, Nat.reduceEqDiff, Nat.reduceAdd, List.getElem?_cons_zero, List.getElem?_cons_succ, Bool.not_true, Bool.not_false])
    ((repeat refine codeTo_seq ?_); refine codeTo_cond (t := false) ?_ (fun h => by cases h) (fun _ => ?_)); (solve | simp only [go_sem, List.getElem?_toArray, Int.ofNat_eq_natCast, reduceIte, Nat.reduceEqDiff, Nat.reduceAdd, List.getElem?_cons_zero, List.getElem?_cons_succ, Bool.not_true, Bool.not_false])
    ((repeat refine codeTo_seq ?_); refine codeTo_exit ?_; (repeat rw [andThen_exit]))
    refine ⟨rfl, _, rfl, ?_⟩
    rw [List.drop_of_length_le (Nat.le_refl _)] at h4
    have h4 : out = sortedH l := h4
    subst h4
    (try simp only [go_sem, List.getElem?_toArray, Int.ofNat_eq_natCast, reduceIte, Nat.reduceEqDiff, Nat.reduceAdd, List.getElem?_cons_zero, List.getElem?_cons_succ, Bool.not_true, Bool.not_false, t3])
    exact ⟨h5, h3, hG, hX⟩
  | succ m ih =>
    rintro tm τ ⟨h1, h2, h3, h4, h5, hG, hX, t0, t3, t4⟩
    dsimp only at h1 h2 h3 h4 h5 hX t3 t4
    have hi : i < l.length := by omega
    have d : decide ((i : Int) < (l.length : Int)) = true := decide_eq_true (by omega)
    ((repeat refine codeTo_seq ?_); refine codeTo_loop ?_)
    ((repeat refine codeTo_seq ?_); refine codeTo_region (by kernel_rfl) ?_)
    (repeat (first | refine opsTo_nil ?_ | (refine sV rfl rfl ?_; simp only [go_sem, List.getElem?_toArray, Int.ofNat_eq_natCast, reduceIte, Nat.reduceEqDiff, Nat.reduceAdd, List.getElem?_cons_zero, List.getElem?_cons_succ, Bool.not_true, Bool.not_false, t0, t3, t4, lenC, und_28, d]) | (refine sR rfl rfl ?_; simp only [go_sem, List.getElem?_toArray, Int.ofNat_eq_natCast, reduceIte, Nat.reduceEqDiff, Nat.reduceAdd, List.getElem?_cons_zero, List.getElem?_cons_succ, Bool.not_true, Bool.not_false, t0, t3, t4, lenC, und_28, d]) | (refine sM rfl rfl ?_; simp only [go_sem, List.getElem?_toArray, Int.ofNat_eq_natCast, reduceIte, Nat.reduceEqDiff, Nat.reduceAdd, List.getElem?_cons_zero, List.getElem?_cons_succ, Bool.not_true, Bool.not_false, t0, t3, t4, lenC, und_28, d]) | (refine sVg rfl rfl ?_ ?_; (solve | simp only [go_sem, List.getElem?_toArray, Int.ofNat_eq_natCast, reduceIte, Nat.reduceEqDiff, Nat.reduceAdd, List.getElem?_cons_zero, List.getElem?_cons_succ, Bool.not_true, Bool.not_false, t0, t3, t4, lenC, und_28, d]); simp only [go_sem, List.getElem?_toArray, Int.ofNat_eq_natCast, reduceIte, Nat.reduceEqDiff, Nat.reduceAdd, List.getElem?_cons_zero, List.getElem?_cons_succ, Bool.not_true, Bool.not_false, t0, t3, t4, lenC, und_28, d]) | (refine sRg rfl rfl ?_ ?_; (solve | simp only [go_sem, List.getElem?_toArray, Int.ofNat_eq_natCast, reduceIte, Nat.reduceEqDiff, Nat.reduceAdd, List.getElem?_cons_zero, List.getElem?_cons_succ, Bool.not_true, Bool.not_false, t0, t3, t4, lenC, und_28, d]); simp only [go_sem, List.getElem?_toArray, Int.ofNat_eq_natCast, reduceIte, Nat.reduceEqDiff, Nat.reduceAdd, List.getElem?_cons_zero, List.getElem?_cons_succ, Bool.not_true, Bool.not_false, t0, t3, t4, lenC, und_28, d]) | (refine sS rfl rfl ?_ ?_; (solve | simp only [go_sem, List.getElem?_toArray, Int.ofNat_eq_natCast, reduceIte, Nat.reduceEqDiff, Nat.reduceAdd, List.getElem?_cons_zero, List.getElem?_cons_succ, Bool.not_true, Bool.not_false, t0, t3, t4, lenC, und_28, d]); simp only [go_sem, List.getElem?_toArray, Int.ofNat_eq_natCast, reduceIte, Nat.reduceEqDiff, Nat.reduceAdd, List.getElem?_cons_zero, List.getElem?_cons_succ, Bool.not_true, Bool.not_false, t0, t3, t4, lenC, und_28, d])))
    (try simp only [go_sem, List.getElem?_toArray, Int.ofNat_eq_natCast, reduceIte, Nat.reduceEqDiff, Nat.reduceAdd, List.getElem?_cons_zero, List.getElem?_cons_succ, Bool.not_true, Bool.not_false])
    ((repeat refine codeTo_seq ?_); refine codeTo_cond (t := true) ?_ (fun _ => ?_) (fun h => by cases h)); (solve | simp only [go_sem, List.getElem?_toArray, Int.ofNat_eq_natCast, reduceIte, Nat.reduceEqDiff, Nat.reduceAdd, List.getElem?_cons_zero, List.getElem?_cons_succ, Bool.not_true, Bool.not_false])
    ((repeat refine codeTo_seq ?_); refine codeTo_skip ?_)
    (try simp only [go_sem, List.getElem?_toArray, Int.ofNat_eq_natCast, reduceIte, Nat.reduceEqDiff, Nat.reduceAdd, List.getElem?_cons_zero, List.getElem?_cons_succ, Bool.not_true, Bool.not_false])
    ((repeat refine codeTo_seq ?_); refine codeTo_block ?_)
    ((repeat refine codeTo_seq ?_); refine codeTo_region (by kernel_rfl) ?_)
    (repeat (first | refine opsTo_nil ?_ | (refine sV rfl rfl ?_; simp only [go_sem, List.getElem?_toArray, Int.ofNat_eq_natCast, reduceIte, Nat.reduceEqDiff, Nat.reduceAdd, List.getElem?_cons_zero, List.getElem?_cons_succ, Bool.not_true, Bool.not_false]) | (refine sR rfl rfl ?_; simp only [go_sem, List.getElem?_toArray, Int.ofNat_eq_natCast, reduceIte, Nat.reduceEqDiff, Nat.reduceAdd, List.getElem?_cons_zero, List.getElem?_cons_succ, Bool.not_true, Bool.not_false]) | (refine sM rfl rfl ?_; simp only [go_sem, List.getElem?_toArray, Int.ofNat_eq_natCast, reduceIte, Nat.reduceEqDiff, Nat.reduceAdd, List.getElem?_cons_zero, List.getElem?_cons_succ, Bool.not_true, Bool.not_false]) | (refine sVg rfl rfl ?_ ?_; (solve | simp only [go_sem, List.getElem?_toArray, Int.ofNat_eq_natCast, reduceIte, Nat.reduceEqDiff, Nat.reduceAdd, List.getElem?_cons_zero, List.getElem?_cons_succ, Bool.not_true, Bool.not_false]); simp only [go_sem, List.getElem?_toArray, Int.ofNat_eq_natCast, reduceIte, Nat.reduceEqDiff, Nat.reduceAdd, List.getElem?_cons_zero, List.getElem?_cons_succ, Bool.not_true, Bool.not_false]) | (refine sRg rfl rfl ?_ ?_; (solve | simp only [go_sem, List.getElem?_toArray, Int.ofNat_eq_natCast, reduceIte, Nat.reduceEqDiff, Nat.reduceAdd, List.getElem?_cons_zero, List.getElem?_cons_succ, Bool.not_true, Bool.not_false]); simp only [go_sem, List.getElem?_toArray, Int.ofNat_eq_natCast, reduceIte, Nat.reduceEqDiff, Nat.reduceAdd, List.getElem?_cons_zero, List.getElem?_cons_succ, Bool.not_true, Bool.not_false]) | (refine sS rfl rfl ?_ ?_; (solve | simp only [go_sem, List.getElem?_toArray, Int.ofNat_eq_natCast, reduceIte, Nat.reduceEqDiff, Nat.reduceAdd, List.getElem?_cons_zero, List.getElem?_cons_succ, Bool.not_true, Bool.not_false]); simp only [go_sem, List.getElem?_toArray, Int.ofNat_eq_natCast, reduceIte, Nat.reduceEqDiff, Nat.reduceAdd, List.getElem?_cons_zero, List.getElem?_cons_succ, Bool.not_true, Bool.not_false])))
    (try simp only [go_sem, List.getElem?_toArray, Int.ofNat_eq_natCast, reduceIte, Nat.reduceEqDiff, Nat.reduceAdd, List.getElem?_cons_zero, List.getElem?_cons_succ, Bool.not_true, Bool.not_false])
    obtain ⟨oa, ocap, rfl⟩ := (h5.slAt h3).len
    have hx32 : l[i].length = 32 := hl _ (List.getElem_mem hi)
    have hiC : (i + 1) * C ≤ l.length * C := Nat.mul_le_mul_right _ hi
    have hiC' : (i + 1) * C = i * C + C := Nat.succ_mul i C
    have hple := posH_le l[i] out
    ((repeat refine codeTo_seq ?_); refine codeTo_blockK (df := []) (fun tm σ' => Grow τ σ' ∧ σ'.next ≤ τ.next + 2 * out.length
      ∧ sl tm 0 = .sl va l.length vcap ∧ sl tm 3 = .sl oa out.length ocap ∧ sl tm 4 = .i .i64 (i : Nat) ∧ sl tm 5 = .i .i64 (posH l[i] out : Nat)) ?_ ?_)
    · refine atLoop (fun (k : Nat) tm σ' => k ≤ out.length ∧ posH l[i] out = k + posH l[i] (out.drop k) ∧ Grow τ σ' ∧ σ'.next = τ.next + 2 * k
        ∧ sl tm 0 = .sl va l.length vcap ∧ sl tm 3 = .sl oa out.length ocap ∧ sl tm 4 = .i .i64 (i : Nat) ∧ sl tm 5 = .i .i64 (k : Nat)) 0
        ⟨Nat.zero_le _, by simp, Grow.refl _, rfl, by simp only [go_sem, List.getElem?_toArray, Int.ofNat_eq_natCast, reduceIte, Nat.reduceEqDiff, Nat.reduceAdd, List.getElem?_cons_zero, List.getElem?_cons_succ, Bool.not_true, Bool.not_false, t0], by simp only [go_sem, List.getElem?_toArray, Int.ofNat_eq_natCast, reduceIte, Nat.reduceEqDiff, Nat.reduceAdd, List.getElem?_cons_zero, List.getElem?_cons_succ, Bool.not_true, Bool.not_false, t3], by simp only [go_sem, List.getElem?_toArray, Int.ofNat_eq_natCast, reduceIte, Nat.reduceEqDiff, Nat.reduceAdd, List.getElem?_cons_zero, List.getElem?_cons_succ, Bool.not_true, Bool.not_false, t4], by simp only [go_sem, List.getElem?_toArray, Int.ofNat_eq_natCast, reduceIte, Nat.reduceEqDiff, Nat.reduceAdd, List.getElem?_cons_zero, List.getElem?_cons_succ, Bool.not_true, Bool.not_false]; rfl⟩ ?_
      intro k
      generalize hj : out.length - k = j
      induction j generalizing k with
      | zero =>
        rintro tm2 σ2 ⟨k1, k2, kG, kX, u0, u3, u4, u5⟩
        have hk' : k = out.length := by omega
        subst hk'
        have d2 : decide ((out.length : Int) < (out.length : Int)) = false := decide_eq_false (by omega)
        ((repeat refine codeTo_seq ?_); refine codeTo_loop ?_)
        ((repeat refine codeTo_seq ?_); refine codeTo_draw0 [⟨0, .value, [], 0⟩, ⟨1, .value, [], 0⟩, ⟨2, .reads, [], 0⟩, ⟨3, .value, [], 0⟩, ⟨4, .value, [], 0⟩, ⟨5, .value, [], 0⟩, ⟨6, .value, [], 0⟩, ⟨7, .value, [], 0⟩, ⟨8, .reads, [], 0⟩, ⟨9, .value, [], 0⟩, ⟨10, .value, [], 0⟩, ⟨11, .value, [], 0⟩, ⟨12, .reads, [], 0⟩, ⟨13, .acts, [], 0⟩, ⟨14, .value, [], 0⟩] (by kernel_rfl) (by kernel_rfl) ?_ ?_)
        · omega
        (repeat (first | refine drawTo_nil ?_ | (refine dV rfl rfl rfl ?_; simp only [go_sem, List.getElem?_toArray, Int.ofNat_eq_natCast, reduceIte, Nat.reduceEqDiff, Nat.reduceAdd, List.getElem?_cons_zero, List.getElem?_cons_succ, Bool.not_true, Bool.not_false, u0, u3, u4, u5, lenC, und_28, d2]) | (refine dR rfl rfl rfl ?_; simp only [go_sem, List.getElem?_toArray, Int.ofNat_eq_natCast, reduceIte, Nat.reduceEqDiff, Nat.reduceAdd, List.getElem?_cons_zero, List.getElem?_cons_succ, Bool.not_true, Bool.not_false, u0, u3, u4, u5, lenC, und_28, d2]) | (refine dVg rfl rfl rfl ?_ ?_; (solve | simp only [go_sem, List.getElem?_toArray, Int.ofNat_eq_natCast, reduceIte, Nat.reduceEqDiff, Nat.reduceAdd, List.getElem?_cons_zero, List.getElem?_cons_succ, Bool.not_true, Bool.not_false, u0, u3, u4, u5, lenC, und_28, d2]); simp only [go_sem, List.getElem?_toArray, Int.ofNat_eq_natCast, reduceIte, Nat.reduceEqDiff, Nat.reduceAdd, List.getElem?_cons_zero, List.getElem?_cons_succ, Bool.not_true, Bool.not_false, u0, u3, u4, u5, lenC, und_28, d2]) | (refine dRg rfl rfl rfl ?_ ?_; (solve | simp only [go_sem, List.getElem?_toArray, Int.ofNat_eq_natCast, reduceIte, Nat.reduceEqDiff, Nat.reduceAdd, List.getElem?_cons_zero, List.getElem?_cons_succ, Bool.not_true, Bool.not_false, u0, u3, u4, u5, lenC, und_28, d2]); simp only [go_sem, List.getElem?_toArray, Int.ofNat_eq_natCast, reduceIte, Nat.reduceEqDiff, Nat.reduceAdd, List.getElem?_cons_zero, List.getElem?_cons_succ, Bool.not_true, Bool.not_false, u0, u3, u4, u5, lenC, und_28, d2]) | (refine dS rfl rfl rfl ?_ (by decide) ?_; (solve | simp only [go_sem, List.getElem?_toArray, Int.ofNat_eq_natCast, reduceIte, Nat.reduceEqDiff, Nat.reduceAdd, List.getElem?_cons_zero, List.getElem?_cons_succ, Bool.not_true, Bool.not_false, u0, u3, u4, u5, lenC, und_28, d2]); simp only [go_sem, List.getElem?_toArray, Int.ofNat_eq_natCast, reduceIte, Nat.reduceEqDiff, Nat.reduceAdd, List.getElem?_cons_zero, List.getElem?_cons_succ, Bool.not_true, Bool.not_false, u0, u3, u4, u5, lenC, und_28, d2])))
        (try simp only [go_sem, List.getElem?_toArray, Int.ofNat_eq_natCast, reduceIte, Nat.reduceEqDiff, Nat.reduceAdd, List.getElem?_cons_zero, List.getElem?_cons_succ, Bool.not_true, Bool.not_false])
        ((repeat refine codeTo_seq ?_); refine codeTo_cond (t := false) ?_ (fun h => by cases h) (fun _ => ?_)); (solve | simp only [go_sem, List.getElem?_toArray, Int.ofNat_eq_natCast, reduceIte, Nat.reduceEqDiff, Nat.reduceAdd, List.getElem?_cons_zero, List.getElem?_cons_succ, Bool.not_true, Bool.not_false])
        ((repeat refine codeTo_seq ?_); refine codeTo_exit ?_; (repeat rw [andThen_exit]))
        refine ⟨rfl, _, rfl, kG, by omega, by simp only [go_sem, List.getElem?_toArray, Int.ofNat_eq_natCast, reduceIte, Nat.reduceEqDiff, Nat.reduceAdd, List.getElem?_cons_zero, List.getElem?_cons_succ, Bool.not_true, Bool.not_false, u0], by simp only [go_sem, List.getElem?_toArray, Int.ofNat_eq_natCast, reduceIte, Nat.reduceEqDiff, Nat.reduceAdd, List.getElem?_cons_zero, List.getElem?_cons_succ, Bool.not_true, Bool.not_false, u3], by simp only [go_sem, List.getElem?_toArray, Int.ofNat_eq_natCast, reduceIte, Nat.reduceEqDiff, Nat.reduceAdd, List.getElem?_cons_zero, List.getElem?_cons_succ, Bool.not_true, Bool.not_false, u4], ?_⟩
        rw [List.drop_of_length_le (Nat.le_refl _), posH, Nat.add_zero] at k2
        (try simp only [go_sem, List.getElem?_toArray, Int.ofNat_eq_natCast, reduceIte, Nat.reduceEqDiff, Nat.reduceAdd, List.getElem?_cons_zero, List.getElem?_cons_succ, Bool.not_true, Bool.not_false, u5, k2])
      | succ j ihj =>
        rintro tm2 σ2 ⟨k1, k2, kG, kX, u0, u3, u4, u5⟩
        have hk' : k < out.length := by omega
        have d2 : decide ((k : Int) < (out.length : Int)) = true := decide_eq_true (by omega)
        have hst := posH_step hk' k2
        have ho32 : out[k].length = 32 := h3 _ (List.getElem_mem hk')
        obtain ⟨oid, ooff, oc, oel, omd, o1, _, o2, o3⟩ := ((h5.slAt h3).grow kG).elem h3 hk'
        obtain ⟨lid, loff, lc, lel, lmd, l1, l0, l2, l3⟩ := ((hvv.grow hG).grow kG).elem hl hi
        have oc' := fun (k : List V → Option V) => cellsAt_go (k := k) o2
        have lc' := fun (k : List V → Option V) => cellsAt_go (k := k) l2
        ((repeat refine codeTo_seq ?_); refine codeTo_loop ?_)
        ((repeat refine codeTo_seq ?_); refine codeTo_draw0 [⟨0, .value, [], 0⟩, ⟨1, .value, [], 0⟩, ⟨2, .reads, [], 0⟩, ⟨3, .value, [], 0⟩, ⟨4, .value, [], 0⟩, ⟨5, .value, [], 0⟩, ⟨6, .value, [], 0⟩, ⟨7, .value, [], 0⟩, ⟨8, .reads, [], 0⟩, ⟨9, .value, [], 0⟩, ⟨10, .value, [], 0⟩, ⟨11, .value, [], 0⟩, ⟨12, .reads, [], 0⟩, ⟨13, .acts, [], 0⟩, ⟨14, .value, [], 0⟩] (by kernel_rfl) (by kernel_rfl) ?_ ?_)
        · omega
        (repeat (first | refine drawTo_nil ?_ | (refine dV rfl rfl rfl ?_; simp only [go_sem, List.getElem?_toArray, Int.ofNat_eq_natCast, reduceIte, Nat.reduceEqDiff, Nat.reduceAdd, List.getElem?_cons_zero, List.getElem?_cons_succ, Bool.not_true, Bool.not_false, u0, u3, u4, u5, lenC, und_28, d2, size_24, o1, oc', o3, l1, lc', l3]) | (refine dR rfl rfl rfl ?_; simp only [go_sem, List.getElem?_toArray, Int.ofNat_eq_natCast, reduceIte, Nat.reduceEqDiff, Nat.reduceAdd, List.getElem?_cons_zero, List.getElem?_cons_succ, Bool.not_true, Bool.not_false, u0, u3, u4, u5, lenC, und_28, d2, size_24, o1, oc', o3, l1, lc', l3]) | (refine dVg rfl rfl rfl ?_ ?_; (solve | simp only [go_sem, List.getElem?_toArray, Int.ofNat_eq_natCast, reduceIte, Nat.reduceEqDiff, Nat.reduceAdd, List.getElem?_cons_zero, List.getElem?_cons_succ, Bool.not_true, Bool.not_false, u0, u3, u4, u5, lenC, und_28, d2, size_24, o1, oc', o3, l1, lc', l3]); simp only [go_sem, List.getElem?_toArray, Int.ofNat_eq_natCast, reduceIte, Nat.reduceEqDiff, Nat.reduceAdd, List.getElem?_cons_zero, List.getElem?_cons_succ, Bool.not_true, Bool.not_false, u0, u3, u4, u5, lenC, und_28, d2, size_24, o1, oc', o3, l1, lc', l3]) | (refine dRg rfl rfl rfl ?_ ?_; (solve | simp only [go_sem, List.getElem?_toArray, Int.ofNat_eq_natCast, reduceIte, Nat.reduceEqDiff, Nat.reduceAdd, List.getElem?_cons_zero, List.getElem?_cons_succ, Bool.not_true, Bool.not_false, u0, u3, u4, u5, lenC, und_28, d2, size_24, o1, oc', o3, l1, lc', l3]); simp only [go_sem, List.getElem?_toArray, Int.ofNat_eq_natCast, reduceIte, Nat.reduceEqDiff, Nat.reduceAdd, List.getElem?_cons_zero, List.getElem?_cons_succ, Bool.not_true, Bool.not_false, u0, u3, u4, u5, lenC, und_28, d2, size_24, o1, oc', o3, l1, lc', l3]) | (refine dS rfl rfl rfl ?_ (by decide) ?_; (solve | simp only [go_sem, List.getElem?_toArray, Int.ofNat_eq_natCast, reduceIte, Nat.reduceEqDiff, Nat.reduceAdd, List.getElem?_cons_zero, List.getElem?_cons_succ, Bool.not_true, Bool.not_false, u0, u3, u4, u5, lenC, und_28, d2, size_24, o1, oc', o3, l1, lc', l3]); simp only [go_sem, List.getElem?_toArray, Int.ofNat_eq_natCast, reduceIte, Nat.reduceEqDiff, Nat.reduceAdd, List.getElem?_cons_zero, List.getElem?_cons_succ, Bool.not_true, Bool.not_false, u0, u3, u4, u5, lenC, und_28, d2, size_24, o1, oc', o3, l1, lc', l3])))
        (first | (refine dA rfl rfl rfl ?_; simp only [go_sem, List.getElem?_toArray, Int.ofNat_eq_natCast, reduceIte, Nat.reduceEqDiff, Nat.reduceAdd, List.getElem?_cons_zero, List.getElem?_cons_succ, Bool.not_true, Bool.not_false]) | (refine dAg rfl rfl rfl ?_ ?_; (solve | simp only [go_sem, List.getElem?_toArray, Int.ofNat_eq_natCast, reduceIte, Nat.reduceEqDiff, Nat.reduceAdd, List.getElem?_cons_zero, List.getElem?_cons_succ, Bool.not_true, Bool.not_false]); simp only [go_sem, List.getElem?_toArray, Int.ofNat_eq_natCast, reduceIte, Nat.reduceEqDiff, Nat.reduceAdd, List.getElem?_cons_zero, List.getElem?_cons_succ, Bool.not_true, Bool.not_false]))
        refine CallTo.mono (callTo_fn hT (less_to ho32 hx32 (by omega))) ?_
        rintro v3 σ3 ⟨rfl, g3, n3⟩
        refine ⟨recheck_nil, by omega, ?_⟩
        cases hq : ltH out[k] l[i] with
        | false =>
          rw [hq] at hst
          (repeat (first | refine drawTo_nil ?_ | (refine dV rfl rfl rfl ?_; simp only [go_sem, List.getElem?_toArray, Int.ofNat_eq_natCast, reduceIte, Nat.reduceEqDiff, Nat.reduceAdd, List.getElem?_cons_zero, List.getElem?_cons_succ, Bool.not_true, Bool.not_false]) | (refine dR rfl rfl rfl ?_; simp only [go_sem, List.getElem?_toArray, Int.ofNat_eq_natCast, reduceIte, Nat.reduceEqDiff, Nat.reduceAdd, List.getElem?_cons_zero, List.getElem?_cons_succ, Bool.not_true, Bool.not_false]) | (refine dVg rfl rfl rfl ?_ ?_; (solve | simp only [go_sem, List.getElem?_toArray, Int.ofNat_eq_natCast, reduceIte, Nat.reduceEqDiff, Nat.reduceAdd, List.getElem?_cons_zero, List.getElem?_cons_succ, Bool.not_true, Bool.not_false]); simp only [go_sem, List.getElem?_toArray, Int.ofNat_eq_natCast, reduceIte, Nat.reduceEqDiff, Nat.reduceAdd, List.getElem?_cons_zero, List.getElem?_cons_succ, Bool.not_true, Bool.not_false]) | (refine dRg rfl rfl rfl ?_ ?_; (solve | simp only [go_sem, List.getElem?_toArray, Int.ofNat_eq_natCast, reduceIte, Nat.reduceEqDiff, Nat.reduceAdd, List.getElem?_cons_zero, List.getElem?_cons_succ, Bool.not_true, Bool.not_false]); simp only [go_sem, List.getElem?_toArray, Int.ofNat_eq_natCast, reduceIte, Nat.reduceEqDiff, Nat.reduceAdd, List.getElem?_cons_zero, List.getElem?_cons_succ, Bool.not_true, Bool.not_false]) | (refine dS rfl rfl rfl ?_ (by decide) ?_; (solve | simp only [go_sem, List.getElem?_toArray, Int.ofNat_eq_natCast, reduceIte, Nat.reduceEqDiff, Nat.reduceAdd, List.getElem?_cons_zero, List.getElem?_cons_succ, Bool.not_true, Bool.not_false]); simp only [go_sem, List.getElem?_toArray, Int.ofNat_eq_natCast, reduceIte, Nat.reduceEqDiff, Nat.reduceAdd, List.getElem?_cons_zero, List.getElem?_cons_succ, Bool.not_true, Bool.not_false])))
          (try simp only [go_sem, List.getElem?_toArray, Int.ofNat_eq_natCast, reduceIte, Nat.reduceEqDiff, Nat.reduceAdd, List.getElem?_cons_zero, List.getElem?_cons_succ, Bool.not_true, Bool.not_false])
          ((repeat refine codeTo_seq ?_); refine codeTo_cond (t := false) ?_ (fun h => by cases h) (fun _ => ?_)); (solve | simp only [go_sem, List.getElem?_toArray, Int.ofNat_eq_natCast, reduceIte, Nat.reduceEqDiff, Nat.reduceAdd, List.getElem?_cons_zero, List.getElem?_cons_succ, Bool.not_true, Bool.not_false])
          ((repeat refine codeTo_seq ?_); refine codeTo_exit ?_; (repeat rw [andThen_exit]))
          refine ⟨rfl, _, rfl, kG.trans g3, by omega, by simp only [go_sem, List.getElem?_toArray, Int.ofNat_eq_natCast, reduceIte, Nat.reduceEqDiff, Nat.reduceAdd, List.getElem?_cons_zero, List.getElem?_cons_succ, Bool.not_true, Bool.not_false, u0], by simp only [go_sem, List.getElem?_toArray, Int.ofNat_eq_natCast, reduceIte, Nat.reduceEqDiff, Nat.reduceAdd, List.getElem?_cons_zero, List.getElem?_cons_succ, Bool.not_true, Bool.not_false, u3], by simp only [go_sem, List.getElem?_toArray, Int.ofNat_eq_natCast, reduceIte, Nat.reduceEqDiff, Nat.reduceAdd, List.getElem?_cons_zero, List.getElem?_cons_succ, Bool.not_true, Bool.not_false, u4], ?_⟩
          have hst : posH l[i] out = k := hst
          (try simp only [go_sem, List.getElem?_toArray, Int.ofNat_eq_natCast, reduceIte, Nat.reduceEqDiff, Nat.reduceAdd, List.getElem?_cons_zero, List.getElem?_cons_succ, Bool.not_true, Bool.not_false, u5, hst])
        | true =>
          rw [hq] at hst
          (repeat (first | refine drawTo_nil ?_ | (refine dV rfl rfl rfl ?_; simp only [go_sem, List.getElem?_toArray, Int.ofNat_eq_natCast, reduceIte, Nat.reduceEqDiff, Nat.reduceAdd, List.getElem?_cons_zero, List.getElem?_cons_succ, Bool.not_true, Bool.not_false]) | (refine dR rfl rfl rfl ?_; simp only [go_sem, List.getElem?_toArray, Int.ofNat_eq_natCast, reduceIte, Nat.reduceEqDiff, Nat.reduceAdd, List.getElem?_cons_zero, List.getElem?_cons_succ, Bool.not_true, Bool.not_false]) | (refine dVg rfl rfl rfl ?_ ?_; (solve | simp only [go_sem, List.getElem?_toArray, Int.ofNat_eq_natCast, reduceIte, Nat.reduceEqDiff, Nat.reduceAdd, List.getElem?_cons_zero, List.getElem?_cons_succ, Bool.not_true, Bool.not_false]); simp only [go_sem, List.getElem?_toArray, Int.ofNat_eq_natCast, reduceIte, Nat.reduceEqDiff, Nat.reduceAdd, List.getElem?_cons_zero, List.getElem?_cons_succ, Bool.not_true, Bool.not_false]) | (refine dRg rfl rfl rfl ?_ ?_; (solve | simp only [go_sem, List.getElem?_toArray, Int.ofNat_eq_natCast, reduceIte, Nat.reduceEqDiff, Nat.reduceAdd, List.getElem?_cons_zero, List.getElem?_cons_succ, Bool.not_true, Bool.not_false]); simp only [go_sem, List.getElem?_toArray, Int.ofNat_eq_natCast, reduceIte, Nat.reduceEqDiff, Nat.reduceAdd, List.getElem?_cons_zero, List.getElem?_cons_succ, Bool.not_true, Bool.not_false]) | (refine dS rfl rfl rfl ?_ (by decide) ?_; (solve | simp only [go_sem, List.getElem?_toArray, Int.ofNat_eq_natCast, reduceIte, Nat.reduceEqDiff, Nat.reduceAdd, List.getElem?_cons_zero, List.getElem?_cons_succ, Bool.not_true, Bool.not_false]); simp only [go_sem, List.getElem?_toArray, Int.ofNat_eq_natCast, reduceIte, Nat.reduceEqDiff, Nat.reduceAdd, List.getElem?_cons_zero, List.getElem?_cons_succ, Bool.not_true, Bool.not_false])))
          (try simp only [go_sem, List.getElem?_toArray, Int.ofNat_eq_natCast, reduceIte, Nat.reduceEqDiff, Nat.reduceAdd, List.getElem?_cons_zero, List.getElem?_cons_succ, Bool.not_true, Bool.not_false])
          ((repeat refine codeTo_seq ?_); refine codeTo_cond (t := true) ?_ (fun _ => ?_) (fun h => by cases h)); (solve | simp only [go_sem, List.getElem?_toArray, Int.ofNat_eq_natCast, reduceIte, Nat.reduceEqDiff, Nat.reduceAdd, List.getElem?_cons_zero, List.getElem?_cons_succ, Bool.not_true, Bool.not_false])
          ((repeat refine codeTo_seq ?_); refine codeTo_skip ?_)
          (try simp only [go_sem, List.getElem?_toArray, Int.ofNat_eq_natCast, reduceIte, Nat.reduceEqDiff, Nat.reduceAdd, List.getElem?_cons_zero, List.getElem?_cons_succ, Bool.not_true, Bool.not_false])
          have w1 := incr_i64 (a := k) (by omega)
          ((repeat refine codeTo_seq ?_); refine codeTo_block ?_)
          ((repeat refine codeTo_seq ?_); refine codeTo_region (by kernel_rfl) ?_)
          (repeat (first | refine opsTo_nil ?_ | (refine sV rfl rfl ?_; simp only [go_sem, List.getElem?_toArray, Int.ofNat_eq_natCast, reduceIte, Nat.reduceEqDiff, Nat.reduceAdd, List.getElem?_cons_zero, List.getElem?_cons_succ, Bool.not_true, Bool.not_false, u5, w1]) | (refine sR rfl rfl ?_; simp only [go_sem, List.getElem?_toArray, Int.ofNat_eq_natCast, reduceIte, Nat.reduceEqDiff, Nat.reduceAdd, List.getElem?_cons_zero, List.getElem?_cons_succ, Bool.not_true, Bool.not_false, u5, w1]) | (refine sM rfl rfl ?_; simp only [go_sem, List.getElem?_toArray, Int.ofNat_eq_natCast, reduceIte, Nat.reduceEqDiff, Nat.reduceAdd, List.getElem?_cons_zero, List.getElem?_cons_succ, Bool.not_true, Bool.not_false, u5, w1]) | (refine sVg rfl rfl ?_ ?_; (solve | simp only [go_sem, List.getElem?_toArray, Int.ofNat_eq_natCast, reduceIte, Nat.reduceEqDiff, Nat.reduceAdd, List.getElem?_cons_zero, List.getElem?_cons_succ, Bool.not_true, Bool.not_false, u5, w1]); simp only [go_sem, List.getElem?_toArray, Int.ofNat_eq_natCast, reduceIte, Nat.reduceEqDiff, Nat.reduceAdd, List.getElem?_cons_zero, List.getElem?_cons_succ, Bool.not_true, Bool.not_false, u5, w1]) | (refine sRg rfl rfl ?_ ?_; (solve | simp only [go_sem, List.getElem?_toArray, Int.ofNat_eq_natCast, reduceIte, Nat.reduceEqDiff, Nat.reduceAdd, List.getElem?_cons_zero, List.getElem?_cons_succ, Bool.not_true, Bool.not_false, u5, w1]); simp only [go_sem, List.getElem?_toArray, Int.ofNat_eq_natCast, reduceIte, Nat.reduceEqDiff, Nat.reduceAdd, List.getElem?_cons_zero, List.getElem?_cons_succ, Bool.not_true, Bool.not_false, u5, w1]) | (refine sS rfl rfl ?_ ?_; (solve | simp only [go_sem, List.getElem?_toArray, Int.ofNat_eq_natCast, reduceIte, Nat.reduceEqDiff, Nat.reduceAdd, List.getElem?_cons_zero, List.getElem?_cons_succ, Bool.not_true, Bool.not_false, u5, w1]); simp only [go_sem, List.getElem?_toArray, Int.ofNat_eq_natCast, reduceIte, Nat.reduceEqDiff, Nat.reduceAdd, List.getElem?_cons_zero, List.getElem?_cons_succ, Bool.not_true, Bool.not_false, u5, w1])))
          (try simp only [go_sem, List.getElem?_toArray, Int.ofNat_eq_natCast, reduceIte, Nat.reduceEqDiff, Nat.reduceAdd, List.getElem?_cons_zero, List.getElem?_cons_succ, Bool.not_true, Bool.not_false])
          exact ihj (k + 1) (by omega) _ _ ⟨by omega, hst, kG.trans g3, by omega, by simp only [go_sem, List.getElem?_toArray, Int.ofNat_eq_natCast, reduceIte, Nat.reduceEqDiff, Nat.reduceAdd, List.getElem?_cons_zero, List.getElem?_cons_succ, Bool.not_true, Bool.not_false, u0], by simp only [go_sem, List.getElem?_toArray, Int.ofNat_eq_natCast, reduceIte, Nat.reduceEqDiff, Nat.reduceAdd, List.getElem?_cons_zero, List.getElem?_cons_succ, Bool.not_true, Bool.not_false, u3], by simp only [go_sem, List.getElem?_toArray, Int.ofNat_eq_natCast, reduceIte, Nat.reduceEqDiff, Nat.reduceAdd, List.getElem?_cons_zero, List.getElem?_cons_succ, Bool.not_true, Bool.not_false, u4], by simp only [go_sem, List.getElem?_toArray, Int.ofNat_eq_natCast, reduceIte, Nat.reduceEqDiff, Nat.reduceAdd, List.getElem?_cons_zero, List.getElem?_cons_succ, Bool.not_true, Bool.not_false]⟩
    · rintro tm2 σ2 ⟨kG, kX, u0, u3, u4, u5⟩
      (try simp only [go_sem, List.getElem?_toArray, Int.ofNat_eq_natCast, reduceIte, Nat.reduceEqDiff, Nat.reduceAdd, List.getElem?_cons_zero, List.getElem?_cons_succ, Bool.not_true, Bool.not_false])
      generalize hp : posH l[i] out = p at hple u5
      obtain ⟨lid, loff, lc, lel, lmd, l1, l0, l2, l3⟩ := ((hvv.grow hG).grow kG).elem hl hi
      have lc' := fun (k : List V → Option V) => cellsAt_go (k := k) l2
      have w1 := incr_i64 (a := i) (by omega)
      refine codeTo_cut (df := []) (fun tm σ3 => Own σ3 σ.next (sl tm 3) (insH l[i] out) ∧ Grow τ σ3 ∧ σ3.next ≤ τ.next + C ∧ sl tm 0 = .sl va l.length vcap ∧ sl tm 4 = .i .i64 (i : Nat)) ?_ ?_
      rotate_left
      · rintro tm3 σ3 ⟨q1, q2, q3, q4, q5⟩
        (try simp only [go_sem, List.getElem?_toArray, Int.ofNat_eq_natCast, reduceIte, Nat.reduceEqDiff, Nat.reduceAdd, List.getElem?_cons_zero, List.getElem?_cons_succ, Bool.not_true, Bool.not_false])
        ((repeat refine codeTo_seq ?_); refine codeTo_region (by kernel_rfl) ?_)
        (repeat (first | refine opsTo_nil ?_ | (refine sV rfl rfl ?_; simp only [go_sem, List.getElem?_toArray, Int.ofNat_eq_natCast, reduceIte, Nat.reduceEqDiff, Nat.reduceAdd, List.getElem?_cons_zero, List.getElem?_cons_succ, Bool.not_true, Bool.not_false, q5, w1]) | (refine sR rfl rfl ?_; simp only [go_sem, List.getElem?_toArray, Int.ofNat_eq_natCast, reduceIte, Nat.reduceEqDiff, Nat.reduceAdd, List.getElem?_cons_zero, List.getElem?_cons_succ, Bool.not_true, Bool.not_false, q5, w1]) | (refine sM rfl rfl ?_; simp only [go_sem, List.getElem?_toArray, Int.ofNat_eq_natCast, reduceIte, Nat.reduceEqDiff, Nat.reduceAdd, List.getElem?_cons_zero, List.getElem?_cons_succ, Bool.not_true, Bool.not_false, q5, w1]) | (refine sVg rfl rfl ?_ ?_; (solve | simp only [go_sem, List.getElem?_toArray, Int.ofNat_eq_natCast, reduceIte, Nat.reduceEqDiff, Nat.reduceAdd, List.getElem?_cons_zero, List.getElem?_cons_succ, Bool.not_true, Bool.not_false, q5, w1]); simp only [go_sem, List.getElem?_toArray, Int.ofNat_eq_natCast, reduceIte, Nat.reduceEqDiff, Nat.reduceAdd, List.getElem?_cons_zero, List.getElem?_cons_succ, Bool.not_true, Bool.not_false, q5, w1]) | (refine sRg rfl rfl ?_ ?_; (solve | simp only [go_sem, List.getElem?_toArray, Int.ofNat_eq_natCast, reduceIte, Nat.reduceEqDiff, Nat.reduceAdd, List.getElem?_cons_zero, List.getElem?_cons_succ, Bool.not_true, Bool.not_false, q5, w1]); simp only [go_sem, List.getElem?_toArray, Int.ofNat_eq_natCast, reduceIte, Nat.reduceEqDiff, Nat.reduceAdd, List.getElem?_cons_zero, List.getElem?_cons_succ, Bool.not_true, Bool.not_false, q5, w1]) | (refine sS rfl rfl ?_ ?_; (solve | simp only [go_sem, List.getElem?_toArray, Int.ofNat_eq_natCast, reduceIte, Nat.reduceEqDiff, Nat.reduceAdd, List.getElem?_cons_zero, List.getElem?_cons_succ, Bool.not_true, Bool.not_false, q5, w1]); simp only [go_sem, List.getElem?_toArray, Int.ofNat_eq_natCast, reduceIte, Nat.reduceEqDiff, Nat.reduceAdd, List.getElem?_cons_zero, List.getElem?_cons_succ, Bool.not_true, Bool.not_false, q5, w1])))
        (try simp only [go_sem, List.getElem?_toArray, Int.ofNat_eq_natCast, reduceIte, Nat.reduceEqDiff, Nat.reduceAdd, List.getElem?_cons_zero, List.getElem?_cons_succ, Bool.not_true, Bool.not_false])
        refine ih (i + 1) (insH l[i] out) (sl tm3 3) (by omega) _ _ ⟨hi, ?_, insH_len32 hx32 h3, ?_, q1, hG.trans q2, ?_, by simp only [go_sem, List.getElem?_toArray, Int.ofNat_eq_natCast, reduceIte, Nat.reduceEqDiff, Nat.reduceAdd, List.getElem?_cons_zero, List.getElem?_cons_succ, Bool.not_true, Bool.not_false, q4], by simp only [go_sem, List.getElem?_toArray, Int.ofNat_eq_natCast, reduceIte, Nat.reduceEqDiff, Nat.reduceAdd, List.getElem?_cons_zero, List.getElem?_cons_succ, Bool.not_true, Bool.not_false], by simp only [go_sem, List.getElem?_toArray, Int.ofNat_eq_natCast, reduceIte, Nat.reduceEqDiff, Nat.reduceAdd, List.getElem?_cons_zero, List.getElem?_cons_succ, Bool.not_true, Bool.not_false]⟩
        · have := insH_le l[i] out; dsimp only; omega
        · rw [← h4, List.drop_eq_getElem_cons hi]; rfl
        · dsimp only; omega
      refine codeTo_seq (codeTo_cut (df := []) (fun tm σ3 => σ3 = σ2 ∧ sl tm 0 = .sl va l.length vcap ∧ sl tm 3 = .sl oa out.length ocap ∧ sl tm 4 = .i .i64 (i : Nat) ∧ sl tm 5 = .i .i64 (p : Nat) ∧ sl tm 43 = .b (decide (p = out.length ∨ out[p]? ≠ some l[i]))) ?_ ?_)
      · by_cases hpl : p = out.length
        · have d3 : decide ((p : Int) = (out.length : Int)) = true := decide_eq_true (by omega)
          have d4 : decide (p = out.length ∨ out[p]? ≠ some l[i]) = true := decide_eq_true (.inl hpl)
          ((repeat refine codeTo_seq ?_); refine codeTo_draw0 [⟨0, .value, [], 0⟩, ⟨1, .value, [], 0⟩, ⟨2, .reads, [], 0⟩, ⟨3, .reads, [], 0⟩, ⟨4, .value, [], 0⟩, ⟨5, .value, [], 0⟩, ⟨6, .value, [], 0⟩, ⟨7, .value, [], 0⟩, ⟨8, .reads, [], 0⟩, ⟨9, .value, [], 0⟩, ⟨10, .value, [], 0⟩, ⟨11, .value, [], 0⟩, ⟨12, .reads, [], 0⟩, ⟨13, .reads, [], 0⟩, ⟨14, .value, [], 0⟩] (by kernel_rfl) (by kernel_rfl) ?_ ?_)
          · omega
          (repeat (first | refine drawTo_nil ?_ | (refine dV rfl rfl rfl ?_; simp only [go_sem, List.getElem?_toArray, Int.ofNat_eq_natCast, reduceIte, Nat.reduceEqDiff, Nat.reduceAdd, List.getElem?_cons_zero, List.getElem?_cons_succ, Bool.not_true, Bool.not_false, u0, u3, u4, u5, lenC, und_28, d3]) | (refine dR rfl rfl rfl ?_; simp only [go_sem, List.getElem?_toArray, Int.ofNat_eq_natCast, reduceIte, Nat.reduceEqDiff, Nat.reduceAdd, List.getElem?_cons_zero, List.getElem?_cons_succ, Bool.not_true, Bool.not_false, u0, u3, u4, u5, lenC, und_28, d3]) | (refine dVg rfl rfl rfl ?_ ?_; (solve | simp only [go_sem, List.getElem?_toArray, Int.ofNat_eq_natCast, reduceIte, Nat.reduceEqDiff, Nat.reduceAdd, List.getElem?_cons_zero, List.getElem?_cons_succ, Bool.not_true, Bool.not_false, u0, u3, u4, u5, lenC, und_28, d3]); simp only [go_sem, List.getElem?_toArray, Int.ofNat_eq_natCast, reduceIte, Nat.reduceEqDiff, Nat.reduceAdd, List.getElem?_cons_zero, List.getElem?_cons_succ, Bool.not_true, Bool.not_false, u0, u3, u4, u5, lenC, und_28, d3]) | (refine dRg rfl rfl rfl ?_ ?_; (solve | simp only [go_sem, List.getElem?_toArray, Int.ofNat_eq_natCast, reduceIte, Nat.reduceEqDiff, Nat.reduceAdd, List.getElem?_cons_zero, List.getElem?_cons_succ, Bool.not_true, Bool.not_false, u0, u3, u4, u5, lenC, und_28, d3]); simp only [go_sem, List.getElem?_toArray, Int.ofNat_eq_natCast, reduceIte, Nat.reduceEqDiff, Nat.reduceAdd, List.getElem?_cons_zero, List.getElem?_cons_succ, Bool.not_true, Bool.not_false, u0, u3, u4, u5, lenC, und_28, d3]) | (refine dS rfl rfl rfl ?_ (by decide) ?_; (solve | simp only [go_sem, List.getElem?_toArray, Int.ofNat_eq_natCast, reduceIte, Nat.reduceEqDiff, Nat.reduceAdd, List.getElem?_cons_zero, List.getElem?_cons_succ, Bool.not_true, Bool.not_false, u0, u3, u4, u5, lenC, und_28, d3]); simp only [go_sem, List.getElem?_toArray, Int.ofNat_eq_natCast, reduceIte, Nat.reduceEqDiff, Nat.reduceAdd, List.getElem?_cons_zero, List.getElem?_cons_succ, Bool.not_true, Bool.not_false, u0, u3, u4, u5, lenC, und_28, d3])))
          exact ⟨by first | rfl | trivial, _, rfl, rfl, by simp only [go_sem, List.getElem?_toArray, Int.ofNat_eq_natCast, reduceIte, Nat.reduceEqDiff, Nat.reduceAdd, List.getElem?_cons_zero, List.getElem?_cons_succ, Bool.not_true, Bool.not_false, u0], by simp only [go_sem, List.getElem?_toArray, Int.ofNat_eq_natCast, reduceIte, Nat.reduceEqDiff, Nat.reduceAdd, List.getElem?_cons_zero, List.getElem?_cons_succ, Bool.not_true, Bool.not_false, u3], by simp only [go_sem, List.getElem?_toArray, Int.ofNat_eq_natCast, reduceIte, Nat.reduceEqDiff, Nat.reduceAdd, List.getElem?_cons_zero, List.getElem?_cons_succ, Bool.not_true, Bool.not_false, u4], by simp only [go_sem, List.getElem?_toArray, Int.ofNat_eq_natCast, reduceIte, Nat.reduceEqDiff, Nat.reduceAdd, List.getElem?_cons_zero, List.getElem?_cons_succ, Bool.not_true, Bool.not_false, u5], by simp only [go_sem, List.getElem?_toArray, Int.ofNat_eq_natCast, reduceIte, Nat.reduceEqDiff, Nat.reduceAdd, List.getElem?_cons_zero, List.getElem?_cons_succ, Bool.not_true, Bool.not_false, d4]⟩
        · have hpl' : p < out.length := by omega
          have d3 : decide ((p : Int) = (out.length : Int)) = false := decide_eq_false (by omega)
          have ho32 : out[p].length = 32 := h3 _ (List.getElem_mem hpl')
          obtain ⟨oid, ooff, oc, oel, omd, o1, _, o2, o3⟩ := ((h5.slAt h3).grow kG).elem h3 hpl'
          have oc' := fun (k : List V → Option V) => cellsAt_go (k := k) o2
          have eqo := fun (x y : Operand) => eqOther_hash (σ := σ2) (x := x) (y := y) (neg := true) ho32 hx32
          have d4 : decide (p = out.length ∨ out[p]? ≠ some l[i]) = !decide (out[p] = l[i]) := by
            rw [Bool.eq_iff_iff, List.getElem?_eq_getElem hpl']; simp [hpl]
          ((repeat refine codeTo_seq ?_); refine codeTo_draw0 [⟨0, .value, [], 0⟩, ⟨1, .value, [], 0⟩, ⟨2, .reads, [], 0⟩, ⟨3, .reads, [], 0⟩, ⟨4, .value, [], 0⟩, ⟨5, .value, [], 0⟩, ⟨6, .value, [], 0⟩, ⟨7, .value, [], 0⟩, ⟨8, .reads, [], 0⟩, ⟨9, .value, [], 0⟩, ⟨10, .value, [], 0⟩, ⟨11, .value, [], 0⟩, ⟨12, .reads, [], 0⟩, ⟨13, .reads, [], 0⟩, ⟨14, .value, [], 0⟩] (by kernel_rfl) (by kernel_rfl) ?_ ?_)
          · omega
          (repeat (first | refine drawTo_nil ?_ | (refine dV rfl rfl rfl ?_; simp only [go_sem, List.getElem?_toArray, Int.ofNat_eq_natCast, reduceIte, Nat.reduceEqDiff, Nat.reduceAdd, List.getElem?_cons_zero, List.getElem?_cons_succ, Bool.not_true, Bool.not_false, u0, u3, u4, u5, lenC, und_28, d3, size_24, o1, oc', o3, l1, lc', l3, eqo]) | (refine dR rfl rfl rfl ?_; simp only [go_sem, List.getElem?_toArray, Int.ofNat_eq_natCast, reduceIte, Nat.reduceEqDiff, Nat.reduceAdd, List.getElem?_cons_zero, List.getElem?_cons_succ, Bool.not_true, Bool.not_false, u0, u3, u4, u5, lenC, und_28, d3, size_24, o1, oc', o3, l1, lc', l3, eqo]) | (refine dVg rfl rfl rfl ?_ ?_; (solve | simp only [go_sem, List.getElem?_toArray, Int.ofNat_eq_natCast, reduceIte, Nat.reduceEqDiff, Nat.reduceAdd, List.getElem?_cons_zero, List.getElem?_cons_succ, Bool.not_true, Bool.not_false, u0, u3, u4, u5, lenC, und_28, d3, size_24, o1, oc', o3, l1, lc', l3, eqo]); simp only [go_sem, List.getElem?_toArray, Int.ofNat_eq_natCast, reduceIte, Nat.reduceEqDiff, Nat.reduceAdd, List.getElem?_cons_zero, List.getElem?_cons_succ, Bool.not_true, Bool.not_false, u0, u3, u4, u5, lenC, und_28, d3, size_24, o1, oc', o3, l1, lc', l3, eqo]) | (refine dRg rfl rfl rfl ?_ ?_; (solve | simp only [go_sem, List.getElem?_toArray, Int.ofNat_eq_natCast, reduceIte, Nat.reduceEqDiff, Nat.reduceAdd, List.getElem?_cons_zero, List.getElem?_cons_succ, Bool.not_true, Bool.not_false, u0, u3, u4, u5, lenC, und_28, d3, size_24, o1, oc', o3, l1, lc', l3, eqo]); simp only [go_sem, List.getElem?_toArray, Int.ofNat_eq_natCast, reduceIte, Nat.reduceEqDiff, Nat.reduceAdd, List.getElem?_cons_zero, List.getElem?_cons_succ, Bool.not_true, Bool.not_false, u0, u3, u4, u5, lenC, und_28, d3, size_24, o1, oc', o3, l1, lc', l3, eqo]) | (refine dS rfl rfl rfl ?_ (by decide) ?_; (solve | simp only [go_sem, List.getElem?_toArray, Int.ofNat_eq_natCast, reduceIte, Nat.reduceEqDiff, Nat.reduceAdd, List.getElem?_cons_zero, List.getElem?_cons_succ, Bool.not_true, Bool.not_false, u0, u3, u4, u5, lenC, und_28, d3, size_24, o1, oc', o3, l1, lc', l3, eqo]); simp only [go_sem, List.getElem?_toArray, Int.ofNat_eq_natCast, reduceIte, Nat.reduceEqDiff, Nat.reduceAdd, List.getElem?_cons_zero, List.getElem?_cons_succ, Bool.not_true, Bool.not_false, u0, u3, u4, u5, lenC, und_28, d3, size_24, o1, oc', o3, l1, lc', l3, eqo])))
          exact ⟨by first | rfl | trivial, _, rfl, rfl, by simp only [go_sem, List.getElem?_toArray, Int.ofNat_eq_natCast, reduceIte, Nat.reduceEqDiff, Nat.reduceAdd, List.getElem?_cons_zero, List.getElem?_cons_succ, Bool.not_true, Bool.not_false, u0], by simp only [go_sem, List.getElem?_toArray, Int.ofNat_eq_natCast, reduceIte, Nat.reduceEqDiff, Nat.reduceAdd, List.getElem?_cons_zero, List.getElem?_cons_succ, Bool.not_true, Bool.not_false, u3], by simp only [go_sem, List.getElem?_toArray, Int.ofNat_eq_natCast, reduceIte, Nat.reduceEqDiff, Nat.reduceAdd, List.getElem?_cons_zero, List.getElem?_cons_succ, Bool.not_true, Bool.not_false, u4], by simp only [go_sem, List.getElem?_toArray, Int.ofNat_eq_natCast, reduceIte, Nat.reduceEqDiff, Nat.reduceAdd, List.getElem?_cons_zero, List.getElem?_cons_succ, Bool.not_true, Bool.not_false, u5], by simp only [go_sem, List.getElem?_toArray, Int.ofNat_eq_natCast, reduceIte, Nat.reduceEqDiff, Nat.reduceAdd, List.getElem?_cons_zero, List.getElem?_cons_succ, Bool.not_true, Bool.not_false, d4]⟩
      · rintro tm3 σ3 ⟨hs3, u0, u3, u4, u5, u43⟩
        subst hs3
        (try simp only [go_sem, List.getElem?_toArray, Int.ofNat_eq_natCast, reduceIte, Nat.reduceEqDiff, Nat.reduceAdd, List.getElem?_cons_zero, List.getElem?_cons_succ, Bool.not_true, Bool.not_false])
        cases hq : decide (p = out.length ∨ out[p]? ≠ some l[i]) with
        | false =>
          rw [hq] at u43
          have hin : insH l[i] out = out := by unfold insH; rw [hp, if_neg (of_decide_eq_false hq)]
          ((repeat refine codeTo_seq ?_); refine codeTo_cond (t := false) ?_ (fun h => by cases h) (fun _ => ?_)); (solve | simp only [go_sem, List.getElem?_toArray, Int.ofNat_eq_natCast, reduceIte, Nat.reduceEqDiff, Nat.reduceAdd, List.getElem?_cons_zero, List.getElem?_cons_succ, Bool.not_true, Bool.not_false, u43])
          ((repeat refine codeTo_seq ?_); refine codeTo_skip ?_)
          refine ⟨rfl, _, rfl, ?_, kG, by omega, u0, u4⟩
          rw [hin, u3]
          exact h5.grow kG
        | true =>
          rw [hq] at u43
          have hin : insH l[i] out = out.take p ++ [l[i]] ++ out.drop p := by unfold insH; rw [hp, if_pos (of_decide_eq_true hq)]
          ((repeat refine codeTo_seq ?_); refine codeTo_cond (t := true) ?_ (fun _ => ?_) (fun h => by cases h)); (solve | simp only [go_sem, List.getElem?_toArray, Int.ofNat_eq_natCast, reduceIte, Nat.reduceEqDiff, Nat.reduceAdd, List.getElem?_cons_zero, List.getElem?_cons_succ, Bool.not_true, Bool.not_false, u43])
          obtain ⟨v1, v2, c1, c2, c3, c4⟩ := (h5.grow kG).cut h3 hple
          refine codeTo_drawN [⟨1, .value, [], 0⟩, ⟨2, .value, [], 0⟩, ⟨3, .value, [], 0⟩, ⟨5, .value, [], 0⟩, ⟨6, .value, [], 0⟩, ⟨7, .value, [], 0⟩, ⟨8, .reads, [], 0⟩, ⟨11, .value, [], 0⟩, ⟨12, .value, [], 0⟩, ⟨13, .value, [], 0⟩, ⟨0, .makes, [], 0⟩, ⟨4, .acts, [8], 0⟩, ⟨9, .makes, [], 0⟩, ⟨10, .acts, [], 0⟩, ⟨14, .acts, [], 0⟩, ⟨15, .value, [], 0⟩] 2 (by kernel_rfl) (by kernel_rfl) (by omega) ?_
          (repeat (first | refine drawTo_nil ?_ | (refine dV rfl rfl rfl ?_; simp only [go_sem, List.getElem?_toArray, Int.ofNat_eq_natCast, reduceIte, Nat.reduceEqDiff, Nat.reduceAdd, List.getElem?_cons_zero, List.getElem?_cons_succ, Bool.not_true, Bool.not_false, u0, u3, u4, u5, sliceC, sliceV, optV, und_28, size_24, c1, c2, l1, lc', l3]) | (refine dR rfl rfl rfl ?_; simp only [go_sem, List.getElem?_toArray, Int.ofNat_eq_natCast, reduceIte, Nat.reduceEqDiff, Nat.reduceAdd, List.getElem?_cons_zero, List.getElem?_cons_succ, Bool.not_true, Bool.not_false, u0, u3, u4, u5, sliceC, sliceV, optV, und_28, size_24, c1, c2, l1, lc', l3]) | (refine dVg rfl rfl rfl ?_ ?_; (solve | simp only [go_sem, List.getElem?_toArray, Int.ofNat_eq_natCast, reduceIte, Nat.reduceEqDiff, Nat.reduceAdd, List.getElem?_cons_zero, List.getElem?_cons_succ, Bool.not_true, Bool.not_false, u0, u3, u4, u5, sliceC, sliceV, optV, und_28, size_24, c1, c2, l1, lc', l3]); simp only [go_sem, List.getElem?_toArray, Int.ofNat_eq_natCast, reduceIte, Nat.reduceEqDiff, Nat.reduceAdd, List.getElem?_cons_zero, List.getElem?_cons_succ, Bool.not_true, Bool.not_false, u0, u3, u4, u5, sliceC, sliceV, optV, und_28, size_24, c1, c2, l1, lc', l3]) | (refine dRg rfl rfl rfl ?_ ?_; (solve | simp only [go_sem, List.getElem?_toArray, Int.ofNat_eq_natCast, reduceIte, Nat.reduceEqDiff, Nat.reduceAdd, List.getElem?_cons_zero, List.getElem?_cons_succ, Bool.not_true, Bool.not_false, u0, u3, u4, u5, sliceC, sliceV, optV, und_28, size_24, c1, c2, l1, lc', l3]); simp only [go_sem, List.getElem?_toArray, Int.ofNat_eq_natCast, reduceIte, Nat.reduceEqDiff, Nat.reduceAdd, List.getElem?_cons_zero, List.getElem?_cons_succ, Bool.not_true, Bool.not_false, u0, u3, u4, u5, sliceC, sliceV, optV, und_28, size_24, c1, c2, l1, lc', l3]) | (refine dS rfl rfl rfl ?_ (by decide) ?_; (solve | simp only [go_sem, List.getElem?_toArray, Int.ofNat_eq_natCast, reduceIte, Nat.reduceEqDiff, Nat.reduceAdd, List.getElem?_cons_zero, List.getElem?_cons_succ, Bool.not_true, Bool.not_false, u0, u3, u4, u5, sliceC, sliceV, optV, und_28, size_24, c1, c2, l1, lc', l3]); simp only [go_sem, List.getElem?_toArray, Int.ofNat_eq_natCast, reduceIte, Nat.reduceEqDiff, Nat.reduceAdd, List.getElem?_cons_zero, List.getElem?_cons_succ, Bool.not_true, Bool.not_false, u0, u3, u4, u5, sliceC, sliceV, optV, und_28, size_24, c1, c2, l1, lc', l3])))
          refine dM rfl rfl rfl ?_; refine optP_mk build0 ?_
          (try simp only [go_sem, List.getElem?_toArray, Int.ofNat_eq_natCast, reduceIte, Nat.reduceEqDiff, Nat.reduceAdd, List.getElem?_cons_zero, List.getElem?_cons_succ, Bool.not_true, Bool.not_false])
          have hGa : Grow σ3 (⟨σ3.heap, σ3.next + 2⟩ : St) := (Grow.refl _).room
          have hGb : Grow σ3 ((⟨σ3.heap, σ3.next + 2⟩ : St).put σ3.next (.cells [] 24 .ex)) := hGa.put (Nat.le_refl _)
          have hRow : Row ((⟨σ3.heap, σ3.next + 2⟩ : St).put σ3.next (.cells [] 24 .ex)) σ3.next (σ3.next + 1) (.sl (some (σ3.next, 0)) 0 (.ex 0)) [] := .e _ (Nat.le_refl _) (by show σ3.next < σ3.next + 2; omega) (by omega) (by rw [St.get_put, if_pos rfl])
          have hbn : ((⟨σ3.heap, σ3.next + 2⟩ : St).put σ3.next (.cells [] 24 .ex)).next = σ3.next + 2 := rfl
          generalize (⟨σ3.heap, σ3.next + 2⟩ : St).put σ3.next (.cells [] 24 .ex) = σb at hGb hRow hbn
          obtain ⟨w4, σ4, a1, a2, a3, a4, a5⟩ := app_row hRow hGb (by omega) (fun _ h => nomatch h) (h3.take p) (by simp; omega)
          refine dA rfl rfl rfl ?_
          rw [wc_append]
          (try simp only [go_sem, List.getElem?_toArray, Int.ofNat_eq_natCast, reduceIte, Nat.reduceEqDiff, Nat.reduceAdd, List.getElem?_cons_zero, List.getElem?_cons_succ, Bool.not_true, Bool.not_false])
          rw [(c3.grow hGb).cells, a1]
          (try simp only [go_sem, List.getElem?_toArray, Int.ofNat_eq_natCast, reduceIte, Nat.reduceEqDiff, Nat.reduceAdd, List.getElem?_cons_zero, List.getElem?_cons_succ, Bool.not_true, Bool.not_false])
          have l4 : σ4.get lid = some (.cells lc lel lmd) := by rw [a3.get _ l0]; exact l2
          have lc4 := fun (k : List V → Option V) => cellsAt_go (k := k) l4
          refine ⟨recheck_one ?_ (eqb_hash 6 _), by omega, ?_⟩
          · simp only [go_sem, List.getElem?_toArray, Int.ofNat_eq_natCast, reduceIte, Nat.reduceEqDiff, Nat.reduceAdd, List.getElem?_cons_zero, List.getElem?_cons_succ, Bool.not_true, Bool.not_false, l1, lc4, l3]
          refine dM rfl rfl rfl ?_; refine optP_mk (build1 (h := l[i]) (by simp only [go_sem, List.getElem?_toArray, Int.ofNat_eq_natCast, reduceIte, Nat.reduceEqDiff, Nat.reduceAdd, List.getElem?_cons_zero, List.getElem?_cons_succ, Bool.not_true, Bool.not_false]) hx32) ?_
          (try simp only [go_sem, List.getElem?_toArray, Int.ofNat_eq_natCast, reduceIte, Nat.reduceEqDiff, Nat.reduceAdd, List.getElem?_cons_zero, List.getElem?_cons_succ, Bool.not_true, Bool.not_false])
          have hR5 := a2.put (.cells (hv l[i]) 24 .ex)
          have hG5 : Grow σ3 (σ4.put (σ3.next + 1) (.cells (hv l[i]) 24 .ex)) := a3.put (Nat.le_succ _)
          have s5 : SlAt (σ4.put (σ3.next + 1) (.cells (hv l[i]) 24 .ex)) (.sl (some (σ3.next + 1, 0)) 1 (.ex 1)) [l[i]] :=
            .at _ 0 (.ex 1) (hv l[i]) 24 .ex [l[i]] (.inr ⟨by show σ3.next + 1 < σ4.next; omega, by rw [St.get_put, if_pos rfl], by
              rw [List.drop_zero, List.take_of_length_le (by rw [hv_len, hx32]; exact Nat.le_refl _)]
              simp [hvs], by rw [hv_len, hx32]; exact Nat.le_refl _⟩)
          have hn5 : (σ4.put (σ3.next + 1) (.cells (hv l[i]) 24 .ex)).next = σ4.next := rfl
          generalize σ4.put (σ3.next + 1) (.cells (hv l[i]) 24 .ex) = σ5 at hR5 hG5 s5 hn5
          obtain ⟨w6, σ6, b1, b2, b3, b4, b5⟩ := app_row hR5 hG5 (by omega) ((Len32.app (fun _ h => nomatch h) (h3.take p))) (Len32.one hx32) (by simp; omega)
          refine dA rfl rfl rfl ?_
          rw [wc_append]
          (try simp only [go_sem, List.getElem?_toArray, Int.ofNat_eq_natCast, reduceIte, Nat.reduceEqDiff, Nat.reduceAdd, List.getElem?_cons_zero, List.getElem?_cons_succ, Bool.not_true, Bool.not_false])
          rw [s5.cells, b1]
          (try simp only [go_sem, List.getElem?_toArray, Int.ofNat_eq_natCast, reduceIte, Nat.reduceEqDiff, Nat.reduceAdd, List.getElem?_cons_zero, List.getElem?_cons_succ, Bool.not_true, Bool.not_false])
          refine ⟨recheck_nil, by omega, ?_⟩
          obtain ⟨w7, σ7, d1, d2, d5, d6, d7⟩ := app_row b2 b3 (by omega) ((Len32.app (Len32.app (fun _ h => nomatch h) (h3.take p)) (Len32.one hx32))) (h3.drop p) (by simp; omega)
          refine dA rfl rfl rfl ?_
          rw [wc_append]
          (try simp only [go_sem, List.getElem?_toArray, Int.ofNat_eq_natCast, reduceIte, Nat.reduceEqDiff, Nat.reduceAdd, List.getElem?_cons_zero, List.getElem?_cons_succ, Bool.not_true, Bool.not_false])
          rw [(c4.grow b3).cells, d1]
          (try simp only [go_sem, List.getElem?_toArray, Int.ofNat_eq_natCast, reduceIte, Nat.reduceEqDiff, Nat.reduceAdd, List.getElem?_cons_zero, List.getElem?_cons_succ, Bool.not_true, Bool.not_false])
          refine ⟨recheck_nil, by omega, ?_⟩
          (repeat (first | refine drawTo_nil ?_ | (refine dV rfl rfl rfl ?_; simp only [go_sem, List.getElem?_toArray, Int.ofNat_eq_natCast, reduceIte, Nat.reduceEqDiff, Nat.reduceAdd, List.getElem?_cons_zero, List.getElem?_cons_succ, Bool.not_true, Bool.not_false]) | (refine dR rfl rfl rfl ?_; simp only [go_sem, List.getElem?_toArray, Int.ofNat_eq_natCast, reduceIte, Nat.reduceEqDiff, Nat.reduceAdd, List.getElem?_cons_zero, List.getElem?_cons_succ, Bool.not_true, Bool.not_false]) | (refine dVg rfl rfl rfl ?_ ?_; (solve | simp only [go_sem, List.getElem?_toArray, Int.ofNat_eq_natCast, reduceIte, Nat.reduceEqDiff, Nat.reduceAdd, List.getElem?_cons_zero, List.getElem?_cons_succ, Bool.not_true, Bool.not_false]); simp only [go_sem, List.getElem?_toArray, Int.ofNat_eq_natCast, reduceIte, Nat.reduceEqDiff, Nat.reduceAdd, List.getElem?_cons_zero, List.getElem?_cons_succ, Bool.not_true, Bool.not_false]) | (refine dRg rfl rfl rfl ?_ ?_; (solve | simp only [go_sem, List.getElem?_toArray, Int.ofNat_eq_natCast, reduceIte, Nat.reduceEqDiff, Nat.reduceAdd, List.getElem?_cons_zero, List.getElem?_cons_succ, Bool.not_true, Bool.not_false]); simp only [go_sem, List.getElem?_toArray, Int.ofNat_eq_natCast, reduceIte, Nat.reduceEqDiff, Nat.reduceAdd, List.getElem?_cons_zero, List.getElem?_cons_succ, Bool.not_true, Bool.not_false]) | (refine dS rfl rfl rfl ?_ (by decide) ?_; (solve | simp only [go_sem, List.getElem?_toArray, Int.ofNat_eq_natCast, reduceIte, Nat.reduceEqDiff, Nat.reduceAdd, List.getElem?_cons_zero, List.getElem?_cons_succ, Bool.not_true, Bool.not_false]); simp only [go_sem, List.getElem?_toArray, Int.ofNat_eq_natCast, reduceIte, Nat.reduceEqDiff, Nat.reduceAdd, List.getElem?_cons_zero, List.getElem?_cons_succ, Bool.not_true, Bool.not_false])))
          refine ⟨by first | rfl | trivial, _, rfl, ?_, kG.trans d5, by omega, by simp only [go_sem, List.getElem?_toArray, Int.ofNat_eq_natCast, reduceIte, Nat.reduceEqDiff, Nat.reduceAdd, List.getElem?_cons_zero, List.getElem?_cons_succ, Bool.not_true, Bool.not_false, u0], by simp only [go_sem, List.getElem?_toArray, Int.ofNat_eq_natCast, reduceIte, Nat.reduceEqDiff, Nat.reduceAdd, List.getElem?_cons_zero, List.getElem?_cons_succ, Bool.not_true, Bool.not_false, u4]⟩
          rw [hin]
          (try simp only [go_sem, List.getElem?_toArray, Int.ofNat_eq_natCast, reduceIte, Nat.reduceEqDiff, Nat.reduceAdd, List.getElem?_cons_zero, List.getElem?_cons_succ, Bool.not_true, Bool.not_false])
          exact d2.own (by simp) (Nat.le_trans hG.le kG.le)
end Go.Proofs.Tz

/- Walks: the ledger's functions. -/
namespace Go.Proofs.Tz
open Go Go.AM
set_option maxRecDepth 100000

@[go_sem] theorem und_26 : E.und 26 = some (.pointer 58) := by kernel_rfl
@[go_sem] theorem und_56 : E.und 56 = some (.map 24 4) := by kernel_rfl
theorem und_58 : E.und 58 = some (.struct #[{ name := "met", type := 56, offset := 0, embedded := false, tag := "", pkgPath := "hayloft/walk", byteOffset := 0 }, { name := "twice", type := 3, offset := 1, embedded := false, tag := "", pkgPath := "hayloft/walk", byteOffset := 8 }]) := by kernel_rfl
@[go_sem] theorem agg_56 : E.agg 56 = some false := by kernel_rfl
@[go_sem] theorem agg_3 : E.agg 3 = some false := by kernel_rfl
@[go_sem] theorem size_3 : E.size 3 = some 1 := by kernel_rfl
@[go_sem] theorem size_56 : E.size 56 = some 1 := by kernel_rfl
@[go_sem] theorem keyOk_24 : AM.keyOk E 24 = true := by kernel_rfl
@[go_sem] theorem keyLen_24 : keyLen E 24 = some 32 := by kernel_rfl
@[go_sem] theorem zero_4 : E.zero 4 = some (.b false) := by kernel_rfl
theorem zero_24 : E.zero 24 = some (.ag (hv (List.replicate 32 0))) := by kernel_rfl

/-- Pointers held against nil. -/
theorem ptr_nil {x y : Operand} {neg : Bool} {a : Nat × Nat} {σ : St} : eqOther E 26 x y neg (.p (some a)) (.p none) σ = some (.b neg) := by
  cases neg <;> kernel_rfl
theorem nil_nil {x y : Operand} {neg : Bool} {σ : St} : eqOther E 26 x y neg (.p none) (.p none) σ = some (.b (!neg)) := by
  cases neg <;> kernel_rfl
theorem bin2_p {fi : IC} {fs : SC} {fo : B2} {a : Option (Nat × Nat)} {b : V} {σ : St} : bin2 fi fs fo (.p a) b σ = fo.run (.p a) b σ := rfl
attribute [go_sem] bin2_p ptr_nil nil_nil

/-- The fields of a ledger. -/
theorem fld0 {t : Nat} {tm : Tr V} {σ : St} {a : Nat} (h : sl tm t = .p (some (a, 0))) : (vc E (.fieldAddr 58 (.tmp t) 0)).run tm σ = some (.p (some (a, 0))) := by
  have e : (vc E (.fieldAddr 58 (.tmp t) 0)).run tm σ = bindV ((opc E (.tmp t)).get tm) fun v => ptr v fun id off => retP id (off + 0) := by kernel_rfl
  rw [e, opc_sl, h, bindV_go, ptr_go, retP_eq]
theorem fld1 {t : Nat} {tm : Tr V} {σ : St} {a : Nat} (h : sl tm t = .p (some (a, 0))) : (vc E (.fieldAddr 58 (.tmp t) 1)).run tm σ = some (.p (some (a, 1))) := by
  have e : (vc E (.fieldAddr 58 (.tmp t) 1)).run tm σ = bindV ((opc E (.tmp t)).get tm) fun v => ptr v fun id off => retP id (off + 1) := by kernel_rfl
  rw [e, opc_sl, h, bindV_go, ptr_go, retP_eq]
theorem nilCk {t : Nat} {tm : Tr V} {σ : St} {a : Nat × Nat} (h : sl tm t = .p (some a)) : (vc E (.nilCheck (.tmp t))).run tm σ = some (.p (some a)) := by
  show bindV ((opc E (.tmp t)).get tm) (fun v => nilOk v) = _
  rw [opc_sl, h, bindV_go]; rfl

/-- A ledger in memory. -/
structure Led (σ : St) (g m : Nat) (keys : List (List Nat)) (tw : Nat) : Prop where
  g : σ.get g = some (.cells [.m (some m), .i .i64 (tw : Nat)] 58 .ex)
  m : ∃ es clock, σ.get m = some (.map es clock) ∧ es.map (fun e => (e.1, e.2.1)) = keys.map fun k => (.ag (hv k), .b true)

theorem findK_led {α : Type} {σ : St} {k : List Nat} (hk : k.length = 32) {yes : V → Nat → Option α} {no : Option α} : ∀ {keys : List (List Nat)} {es : List (V × V × Nat)} {i : Nat}, Len32 keys → es.map (fun e => (e.1, e.2.1)) = keys.map (fun k => (V.ag (hv k), V.b true)) →
    (k ∈ keys → ∃ j, findK E σ 24 (.ag (hv k)) yes no es i = yes (.b true) j) ∧ (k ∉ keys → findK E σ 24 (.ag (hv k)) yes no es i = no) := by
  intro keys
  induction keys with
  | nil => intro es i _ h; cases es with
    | nil => exact ⟨(fun h => nomatch h), fun _ => rfl⟩
    | cons e es => cases h
  | cons x xs ih =>
    intro es i hl h
    cases es with
    | nil => cases h
    | cons e es =>
      simp only [List.map_cons, List.cons.injEq, Prod.mk.injEq] at h
      obtain ⟨⟨h1, h2⟩, h3⟩ := h
      have hx : x.length = 32 := hl _ List.mem_cons_self
      have hr := ih (es := es) (i := Nat.succ i) (fun y hy => hl y (List.mem_cons_of_mem _ hy)) h3
      unfold findK
      rw [h1, eqV_hash (n := 1) hk hx]
      by_cases e1 : k = x
      · rw [decide_eq_true e1]
        exact ⟨fun _ => ⟨i, by rw [h2]⟩, fun hn => absurd (by rw [e1]; exact List.mem_cons_self) hn⟩
      · rw [decide_eq_false e1]
        exact ⟨fun hm => hr.1 ((List.mem_cons.1 hm).resolve_left e1), fun hn => hr.2 fun hm => hn (List.mem_cons_of_mem _ hm)⟩

theorem look_led {σ : St} {g m : Nat} {keys : List (List Nat)} {tw : Nat} (h : Led σ g m keys tw) (hl : Len32 keys) {k : List Nat} (hk : k.length = 32) :
    lookV E 24 (.b false) false (.m (some m)) (.ag (hv k)) σ = some (.b (decide (k ∈ keys))) := by
  obtain ⟨es, clock, h1, h2⟩ := h.m
  unfold lookV
  rw [keyLen_24]
  have hf : keyFits (some 32) (.ag (hv k)) = true := by
    show Nat.beq (lenL (hv k)) 32 = true
    rw [lenL_eq, hv_len, hk]; rfl
  rw [hf, bcase_true]
  unfold mapAt
  dsimp only
  rw [h1]
  dsimp only
  obtain ⟨f1, f2⟩ := findK_led (α := V) (σ := σ) (yes := fun v _ => some (bcase false (.tu [v, .b true]) v)) (no := some (bcase false (.tu [V.b false, .b false]) (V.b false))) (i := 0) hk hl h2
  by_cases hm : k ∈ keys
  · obtain ⟨j, hj⟩ := f1 hm
    rw [hj, decide_eq_true hm]; rfl
  · rw [f2 hm, decide_eq_false hm]; rfl

theorem Led.grow {σ σ' : St} {g m : Nat} {keys : List (List Nat)} {tw : Nat} (h : Led σ g m keys tw) (e1 : σ'.get g = σ.get g) (e2 : σ'.get m = σ.get m) : Led σ' g m keys tw :=
  ⟨by rw [e1]; exact h.g, by rw [e2]; exact h.m⟩

theorem has_to {T : Tr Ctr} {σ : St} {g m : Nat} {keys : List (List Nat)} {tw : Nat} (h : Led σ g m keys tw) (hl : Len32 keys) (hg : g < σ.next) (hm : m < σ.next) {k : List Nat} (hk : k.length = 32) (hn : σ.next + 1 ≤ big) :
    FnTo E T 10 [.p (some (g, 0)), .ag (hv k)] σ fun v σ' => v = .b (decide (k ∈ keys)) ∧ Grow σ σ' ∧ σ'.next = σ.next + 1 := by
  refine fnTo (fn := Tryz.f10) (by kernel_rfl) rfl (by kernel_rfl) ?_
  rw [show Tryz.f10.ntmps = 15 from rfl]
  simp only [Tr.ofList]
  ((repeat refine codeTo_seq ?_); refine codeTo_region (by kernel_rfl) ?_)
  (repeat (first | refine opsTo_nil ?_ | (refine sV rfl rfl ?_; simp only [go_sem, List.getElem?_toArray, Int.ofNat_eq_natCast, reduceIte, Nat.reduceEqDiff, Nat.reduceAdd, List.getElem?_cons_zero, List.getElem?_cons_succ, Bool.not_true, Bool.not_false]) | (refine sR rfl rfl ?_; simp only [go_sem, List.getElem?_toArray, Int.ofNat_eq_natCast, reduceIte, Nat.reduceEqDiff, Nat.reduceAdd, List.getElem?_cons_zero, List.getElem?_cons_succ, Bool.not_true, Bool.not_false]) | (refine sM rfl rfl ?_; simp only [go_sem, List.getElem?_toArray, Int.ofNat_eq_natCast, reduceIte, Nat.reduceEqDiff, Nat.reduceAdd, List.getElem?_cons_zero, List.getElem?_cons_succ, Bool.not_true, Bool.not_false]) | (refine sVg rfl rfl ?_ ?_; (solve | simp only [go_sem, List.getElem?_toArray, Int.ofNat_eq_natCast, reduceIte, Nat.reduceEqDiff, Nat.reduceAdd, List.getElem?_cons_zero, List.getElem?_cons_succ, Bool.not_true, Bool.not_false]); simp only [go_sem, List.getElem?_toArray, Int.ofNat_eq_natCast, reduceIte, Nat.reduceEqDiff, Nat.reduceAdd, List.getElem?_cons_zero, List.getElem?_cons_succ, Bool.not_true, Bool.not_false]) | (refine sRg rfl rfl ?_ ?_; (solve | simp only [go_sem, List.getElem?_toArray, Int.ofNat_eq_natCast, reduceIte, Nat.reduceEqDiff, Nat.reduceAdd, List.getElem?_cons_zero, List.getElem?_cons_succ, Bool.not_true, Bool.not_false]); simp only [go_sem, List.getElem?_toArray, Int.ofNat_eq_natCast, reduceIte, Nat.reduceEqDiff, Nat.reduceAdd, List.getElem?_cons_zero, List.getElem?_cons_succ, Bool.not_true, Bool.not_false]) | (refine sS rfl rfl ?_ ?_; (solve | simp only [go_sem, List.getElem?_toArray, Int.ofNat_eq_natCast, reduceIte, Nat.reduceEqDiff, Nat.reduceAdd, List.getElem?_cons_zero, List.getElem?_cons_succ, Bool.not_true, Bool.not_false]); simp only [go_sem, List.getElem?_toArray, Int.ofNat_eq_natCast, reduceIte, Nat.reduceEqDiff, Nat.reduceAdd, List.getElem?_cons_zero, List.getElem?_cons_succ, Bool.not_true, Bool.not_false])))
  (try simp only [go_sem, List.getElem?_toArray, Int.ofNat_eq_natCast, reduceIte, Nat.reduceEqDiff, Nat.reduceAdd, List.getElem?_cons_zero, List.getElem?_cons_succ, Bool.not_true, Bool.not_false])
  have gG : Grow σ (σ.new (.cells (V.ag (hv k)).cells 24 .ex)) := Grow.new _ _
  have gB : (σ.new (.cells (V.ag (hv k)).cells 24 .ex)).get σ.next = some (.cells (hv k) 24 .ex) := by rw [St.get_new]; exact if_pos rfl
  have gn : (σ.new (.cells (V.ag (hv k)).cells 24 .ex)).next = σ.next + 1 := rfl
  generalize σ.new (.cells (V.ag (hv k)).cells 24 .ex) = τ at gG gB gn
  have hL : Led τ g m keys tw := h.grow (gG.get _ hg) (gG.get _ hm)
  have c1 := fun (k : List V → Option V) => cellsAt_go (k := k) hL.g
  have c2 := fun (k : List V → Option V) => cellsAt_go (k := k) gB
  have r2 : ∀ (f : List V → Option V), rangeK (hv k) 0 32 f = f (hv k) := fun f => by rw [rangeK_go (by rw [hv_len, hk]; omega), List.drop_zero, List.take_of_length_le (by rw [hv_len, hk]; omega)]
  have lk := look_led hL hl hk
  ((repeat refine codeTo_seq ?_); refine codeTo_draw0 [⟨0, .value, [], 0⟩, ⟨1, .reads, [], 0⟩, ⟨2, .value, [], 0⟩, ⟨3, .value, [], 0⟩, ⟨4, .value, [], 0⟩, ⟨5, .value, [], 0⟩, ⟨6, .reads, [], 0⟩, ⟨7, .reads, [], 0⟩, ⟨8, .reads, [], 0⟩, ⟨9, .value, [], 0⟩, ⟨10, .value, [], 0⟩] (by kernel_rfl) (by kernel_rfl) ?_ ?_)
  · omega
  (repeat (first | refine drawTo_nil ?_ | (refine dV rfl rfl rfl ?_; simp only [go_sem, List.getElem?_toArray, Int.ofNat_eq_natCast, reduceIte, Nat.reduceEqDiff, Nat.reduceAdd, List.getElem?_cons_zero, List.getElem?_cons_succ, Bool.not_true, Bool.not_false, nilOk, fieldAddrC, und_58, size_3, c1, c2, r2, lookC, lk]) | (refine dR rfl rfl rfl ?_; simp only [go_sem, List.getElem?_toArray, Int.ofNat_eq_natCast, reduceIte, Nat.reduceEqDiff, Nat.reduceAdd, List.getElem?_cons_zero, List.getElem?_cons_succ, Bool.not_true, Bool.not_false, nilOk, fieldAddrC, und_58, size_3, c1, c2, r2, lookC, lk]) | (refine dVg rfl rfl rfl ?_ ?_; (solve | simp only [go_sem, List.getElem?_toArray, Int.ofNat_eq_natCast, reduceIte, Nat.reduceEqDiff, Nat.reduceAdd, List.getElem?_cons_zero, List.getElem?_cons_succ, Bool.not_true, Bool.not_false, nilOk, fieldAddrC, und_58, size_3, c1, c2, r2, lookC, lk]); simp only [go_sem, List.getElem?_toArray, Int.ofNat_eq_natCast, reduceIte, Nat.reduceEqDiff, Nat.reduceAdd, List.getElem?_cons_zero, List.getElem?_cons_succ, Bool.not_true, Bool.not_false, nilOk, fieldAddrC, und_58, size_3, c1, c2, r2, lookC, lk]) | (refine dRg rfl rfl rfl ?_ ?_; (solve | simp only [go_sem, List.getElem?_toArray, Int.ofNat_eq_natCast, reduceIte, Nat.reduceEqDiff, Nat.reduceAdd, List.getElem?_cons_zero, List.getElem?_cons_succ, Bool.not_true, Bool.not_false, nilOk, fieldAddrC, und_58, size_3, c1, c2, r2, lookC, lk]); simp only [go_sem, List.getElem?_toArray, Int.ofNat_eq_natCast, reduceIte, Nat.reduceEqDiff, Nat.reduceAdd, List.getElem?_cons_zero, List.getElem?_cons_succ, Bool.not_true, Bool.not_false, nilOk, fieldAddrC, und_58, size_3, c1, c2, r2, lookC, lk]) | (refine dS rfl rfl rfl ?_ (by decide) ?_; (solve | simp only [go_sem, List.getElem?_toArray, Int.ofNat_eq_natCast, reduceIte, Nat.reduceEqDiff, Nat.reduceAdd, List.getElem?_cons_zero, List.getElem?_cons_succ, Bool.not_true, Bool.not_false, nilOk, fieldAddrC, und_58, size_3, c1, c2, r2, lookC, lk]); simp only [go_sem, List.getElem?_toArray, Int.ofNat_eq_natCast, reduceIte, Nat.reduceEqDiff, Nat.reduceAdd, List.getElem?_cons_zero, List.getElem?_cons_succ, Bool.not_true, Bool.not_false, nilOk, fieldAddrC, und_58, size_3, c1, c2, r2, lookC, lk])))
  ((repeat refine codeTo_seq ?_); refine codeTo_ret ?_; (try simp only [andThen_ret, outOf_ret]))
  refine hands_tmp (ts := [4]) rfl trivial ?_
  (try simp only [go_sem, List.getElem?_toArray, Int.ofNat_eq_natCast, reduceIte, Nat.reduceEqDiff, Nat.reduceAdd, List.getElem?_cons_zero, List.getElem?_cons_succ, Bool.not_true, Bool.not_false, List.map, tuV])
  exact ⟨trivial, gG, gn⟩
end Go.Proofs.Tz

/- Walks: the ledger's other functions. -/
namespace Go.Proofs.Tz
open Go Go.AM
set_option maxRecDepth 100000

theorem Led.len {σ : St} {g m : Nat} {keys : List (List Nat)} {tw : Nat} (h : Led σ g m keys tw) : ∃ es clock, σ.get m = some (.map es clock) ∧ es.length = keys.length := by
  obtain ⟨es, clock, h1, h2⟩ := h.m
  exact ⟨es, clock, h1, by have := congrArg List.length h2; simpa using this⟩

theorem len_to {T : Tr Ctr} {σ : St} {g m : Nat} {keys : List (List Nat)} {tw : Nat} (h : Led σ g m keys tw) :
    FnTo E T 8 [.p (some (g, 0))] σ fun v σ' => v = .i .i64 (keys.length : Nat) ∧ σ' = σ := by
  refine fnTo (fn := Tryz.f8) (by kernel_rfl) rfl (by kernel_rfl) ?_
  rw [show Tryz.f8.ntmps = 10 from rfl]
  simp only [Tr.ofList]
  have c1 := fun (k : List V → Option V) => cellsAt_go (k := k) h.g
  obtain ⟨es, clock, h1, h2⟩ := h.len
  have hm : ∀ (k : List (V × V × Nat) → Nat → Option V), mapAt σ (.m (some m)) k = k es clock := fun k => by unfold mapAt; dsimp only; rw [h1]
  ((repeat refine codeTo_seq ?_); refine codeTo_region (by kernel_rfl) ?_)
  (repeat (first | refine opsTo_nil ?_ | (refine sV rfl rfl ?_; simp only [go_sem, List.getElem?_toArray, Int.ofNat_eq_natCast, reduceIte, Nat.reduceEqDiff, Nat.reduceAdd, List.getElem?_cons_zero, List.getElem?_cons_succ, Bool.not_true, Bool.not_false]) | (refine sR rfl rfl ?_; simp only [go_sem, List.getElem?_toArray, Int.ofNat_eq_natCast, reduceIte, Nat.reduceEqDiff, Nat.reduceAdd, List.getElem?_cons_zero, List.getElem?_cons_succ, Bool.not_true, Bool.not_false]) | (refine sM rfl rfl ?_; simp only [go_sem, List.getElem?_toArray, Int.ofNat_eq_natCast, reduceIte, Nat.reduceEqDiff, Nat.reduceAdd, List.getElem?_cons_zero, List.getElem?_cons_succ, Bool.not_true, Bool.not_false]) | (refine sVg rfl rfl ?_ ?_; (solve | simp only [go_sem, List.getElem?_toArray, Int.ofNat_eq_natCast, reduceIte, Nat.reduceEqDiff, Nat.reduceAdd, List.getElem?_cons_zero, List.getElem?_cons_succ, Bool.not_true, Bool.not_false]); simp only [go_sem, List.getElem?_toArray, Int.ofNat_eq_natCast, reduceIte, Nat.reduceEqDiff, Nat.reduceAdd, List.getElem?_cons_zero, List.getElem?_cons_succ, Bool.not_true, Bool.not_false]) | (refine sRg rfl rfl ?_ ?_; (solve | simp only [go_sem, List.getElem?_toArray, Int.ofNat_eq_natCast, reduceIte, Nat.reduceEqDiff, Nat.reduceAdd, List.getElem?_cons_zero, List.getElem?_cons_succ, Bool.not_true, Bool.not_false]); simp only [go_sem, List.getElem?_toArray, Int.ofNat_eq_natCast, reduceIte, Nat.reduceEqDiff, Nat.reduceAdd, List.getElem?_cons_zero, List.getElem?_cons_succ, Bool.not_true, Bool.not_false]) | (refine sS rfl rfl ?_ ?_; (solve | simp only [go_sem, List.getElem?_toArray, Int.ofNat_eq_natCast, reduceIte, Nat.reduceEqDiff, Nat.reduceAdd, List.getElem?_cons_zero, List.getElem?_cons_succ, Bool.not_true, Bool.not_false]); simp only [go_sem, List.getElem?_toArray, Int.ofNat_eq_natCast, reduceIte, Nat.reduceEqDiff, Nat.reduceAdd, List.getElem?_cons_zero, List.getElem?_cons_succ, Bool.not_true, Bool.not_false])))
  (try simp only [go_sem, List.getElem?_toArray, Int.ofNat_eq_natCast, reduceIte, Nat.reduceEqDiff, Nat.reduceAdd, List.getElem?_cons_zero, List.getElem?_cons_succ, Bool.not_true, Bool.not_false])
  ((repeat refine codeTo_seq ?_); refine codeTo_region (by kernel_rfl) ?_)
  (repeat (first | refine opsTo_nil ?_ | (refine sV rfl rfl ?_; simp only [go_sem, List.getElem?_toArray, Int.ofNat_eq_natCast, reduceIte, Nat.reduceEqDiff, Nat.reduceAdd, List.getElem?_cons_zero, List.getElem?_cons_succ, Bool.not_true, Bool.not_false]) | (refine sR rfl rfl ?_; simp only [go_sem, List.getElem?_toArray, Int.ofNat_eq_natCast, reduceIte, Nat.reduceEqDiff, Nat.reduceAdd, List.getElem?_cons_zero, List.getElem?_cons_succ, Bool.not_true, Bool.not_false]) | (refine sM rfl rfl ?_; simp only [go_sem, List.getElem?_toArray, Int.ofNat_eq_natCast, reduceIte, Nat.reduceEqDiff, Nat.reduceAdd, List.getElem?_cons_zero, List.getElem?_cons_succ, Bool.not_true, Bool.not_false]) | (refine sVg rfl rfl ?_ ?_; (solve | simp only [go_sem, List.getElem?_toArray, Int.ofNat_eq_natCast, reduceIte, Nat.reduceEqDiff, Nat.reduceAdd, List.getElem?_cons_zero, List.getElem?_cons_succ, Bool.not_true, Bool.not_false]); simp only [go_sem, List.getElem?_toArray, Int.ofNat_eq_natCast, reduceIte, Nat.reduceEqDiff, Nat.reduceAdd, List.getElem?_cons_zero, List.getElem?_cons_succ, Bool.not_true, Bool.not_false]) | (refine sRg rfl rfl ?_ ?_; (solve | simp only [go_sem, List.getElem?_toArray, Int.ofNat_eq_natCast, reduceIte, Nat.reduceEqDiff, Nat.reduceAdd, List.getElem?_cons_zero, List.getElem?_cons_succ, Bool.not_true, Bool.not_false]); simp only [go_sem, List.getElem?_toArray, Int.ofNat_eq_natCast, reduceIte, Nat.reduceEqDiff, Nat.reduceAdd, List.getElem?_cons_zero, List.getElem?_cons_succ, Bool.not_true, Bool.not_false]) | (refine sS rfl rfl ?_ ?_; (solve | simp only [go_sem, List.getElem?_toArray, Int.ofNat_eq_natCast, reduceIte, Nat.reduceEqDiff, Nat.reduceAdd, List.getElem?_cons_zero, List.getElem?_cons_succ, Bool.not_true, Bool.not_false]); simp only [go_sem, List.getElem?_toArray, Int.ofNat_eq_natCast, reduceIte, Nat.reduceEqDiff, Nat.reduceAdd, List.getElem?_cons_zero, List.getElem?_cons_succ, Bool.not_true, Bool.not_false])))
  (try simp only [go_sem, List.getElem?_toArray, Int.ofNat_eq_natCast, reduceIte, Nat.reduceEqDiff, Nat.reduceAdd, List.getElem?_cons_zero, List.getElem?_cons_succ, Bool.not_true, Bool.not_false])
  ((repeat refine codeTo_seq ?_); refine codeTo_cond (t := false) ?_ (fun h => by cases h) (fun _ => ?_)); (solve | simp only [go_sem, List.getElem?_toArray, Int.ofNat_eq_natCast, reduceIte, Nat.reduceEqDiff, Nat.reduceAdd, List.getElem?_cons_zero, List.getElem?_cons_succ, Bool.not_true, Bool.not_false])
  ((repeat refine codeTo_seq ?_); refine codeTo_skip ?_)
  (try simp only [go_sem, List.getElem?_toArray, Int.ofNat_eq_natCast, reduceIte, Nat.reduceEqDiff, Nat.reduceAdd, List.getElem?_cons_zero, List.getElem?_cons_succ, Bool.not_true, Bool.not_false])
  ((repeat refine codeTo_seq ?_); refine codeTo_region (by kernel_rfl) ?_)
  (repeat (first | refine opsTo_nil ?_ | (refine sV rfl rfl ?_; simp only [go_sem, List.getElem?_toArray, Int.ofNat_eq_natCast, reduceIte, Nat.reduceEqDiff, Nat.reduceAdd, List.getElem?_cons_zero, List.getElem?_cons_succ, Bool.not_true, Bool.not_false, nilOk, fieldAddrC, und_58, size_56, c1, hm, lenL_eq, h2]) | (refine sR rfl rfl ?_; simp only [go_sem, List.getElem?_toArray, Int.ofNat_eq_natCast, reduceIte, Nat.reduceEqDiff, Nat.reduceAdd, List.getElem?_cons_zero, List.getElem?_cons_succ, Bool.not_true, Bool.not_false, nilOk, fieldAddrC, und_58, size_56, c1, hm, lenL_eq, h2]) | (refine sM rfl rfl ?_; simp only [go_sem, List.getElem?_toArray, Int.ofNat_eq_natCast, reduceIte, Nat.reduceEqDiff, Nat.reduceAdd, List.getElem?_cons_zero, List.getElem?_cons_succ, Bool.not_true, Bool.not_false, nilOk, fieldAddrC, und_58, size_56, c1, hm, lenL_eq, h2]) | (refine sVg rfl rfl ?_ ?_; (solve | simp only [go_sem, List.getElem?_toArray, Int.ofNat_eq_natCast, reduceIte, Nat.reduceEqDiff, Nat.reduceAdd, List.getElem?_cons_zero, List.getElem?_cons_succ, Bool.not_true, Bool.not_false, nilOk, fieldAddrC, und_58, size_56, c1, hm, lenL_eq, h2]); simp only [go_sem, List.getElem?_toArray, Int.ofNat_eq_natCast, reduceIte, Nat.reduceEqDiff, Nat.reduceAdd, List.getElem?_cons_zero, List.getElem?_cons_succ, Bool.not_true, Bool.not_false, nilOk, fieldAddrC, und_58, size_56, c1, hm, lenL_eq, h2]) | (refine sRg rfl rfl ?_ ?_; (solve | simp only [go_sem, List.getElem?_toArray, Int.ofNat_eq_natCast, reduceIte, Nat.reduceEqDiff, Nat.reduceAdd, List.getElem?_cons_zero, List.getElem?_cons_succ, Bool.not_true, Bool.not_false, nilOk, fieldAddrC, und_58, size_56, c1, hm, lenL_eq, h2]); simp only [go_sem, List.getElem?_toArray, Int.ofNat_eq_natCast, reduceIte, Nat.reduceEqDiff, Nat.reduceAdd, List.getElem?_cons_zero, List.getElem?_cons_succ, Bool.not_true, Bool.not_false, nilOk, fieldAddrC, und_58, size_56, c1, hm, lenL_eq, h2]) | (refine sS rfl rfl ?_ ?_; (solve | simp only [go_sem, List.getElem?_toArray, Int.ofNat_eq_natCast, reduceIte, Nat.reduceEqDiff, Nat.reduceAdd, List.getElem?_cons_zero, List.getElem?_cons_succ, Bool.not_true, Bool.not_false, nilOk, fieldAddrC, und_58, size_56, c1, hm, lenL_eq, h2]); simp only [go_sem, List.getElem?_toArray, Int.ofNat_eq_natCast, reduceIte, Nat.reduceEqDiff, Nat.reduceAdd, List.getElem?_cons_zero, List.getElem?_cons_succ, Bool.not_true, Bool.not_false, nilOk, fieldAddrC, und_58, size_56, c1, hm, lenL_eq, h2])))
  ((repeat refine codeTo_seq ?_); refine codeTo_ret ?_; (try simp only [andThen_ret, outOf_ret]))
  refine hands_tmp (ts := [2]) rfl trivial ?_
  (try simp only [go_sem, List.getElem?_toArray, Int.ofNat_eq_natCast, reduceIte, Nat.reduceEqDiff, Nat.reduceAdd, List.getElem?_cons_zero, List.getElem?_cons_succ, Bool.not_true, Bool.not_false, List.map, tuV])
  exact ⟨trivial, trivial⟩

theorem twice_to {T : Tr Ctr} {σ : St} {g m : Nat} {keys : List (List Nat)} {tw : Nat} (h : Led σ g m keys tw) :
    FnTo E T 9 [.p (some (g, 0))] σ fun v σ' => v = .i .i64 (tw : Nat) ∧ σ' = σ := by
  refine fnTo (fn := Tryz.f9) (by kernel_rfl) rfl (by kernel_rfl) ?_
  rw [show Tryz.f9.ntmps = 9 from rfl]
  simp only [Tr.ofList]
  have c1 := fun (k : List V → Option V) => cellsAt_go (k := k) h.g
  ((repeat refine codeTo_seq ?_); refine codeTo_region (by kernel_rfl) ?_)
  (repeat (first | refine opsTo_nil ?_ | (refine sV rfl rfl ?_; simp only [go_sem, List.getElem?_toArray, Int.ofNat_eq_natCast, reduceIte, Nat.reduceEqDiff, Nat.reduceAdd, List.getElem?_cons_zero, List.getElem?_cons_succ, Bool.not_true, Bool.not_false]) | (refine sR rfl rfl ?_; simp only [go_sem, List.getElem?_toArray, Int.ofNat_eq_natCast, reduceIte, Nat.reduceEqDiff, Nat.reduceAdd, List.getElem?_cons_zero, List.getElem?_cons_succ, Bool.not_true, Bool.not_false]) | (refine sM rfl rfl ?_; simp only [go_sem, List.getElem?_toArray, Int.ofNat_eq_natCast, reduceIte, Nat.reduceEqDiff, Nat.reduceAdd, List.getElem?_cons_zero, List.getElem?_cons_succ, Bool.not_true, Bool.not_false]) | (refine sVg rfl rfl ?_ ?_; (solve | simp only [go_sem, List.getElem?_toArray, Int.ofNat_eq_natCast, reduceIte, Nat.reduceEqDiff, Nat.reduceAdd, List.getElem?_cons_zero, List.getElem?_cons_succ, Bool.not_true, Bool.not_false]); simp only [go_sem, List.getElem?_toArray, Int.ofNat_eq_natCast, reduceIte, Nat.reduceEqDiff, Nat.reduceAdd, List.getElem?_cons_zero, List.getElem?_cons_succ, Bool.not_true, Bool.not_false]) | (refine sRg rfl rfl ?_ ?_; (solve | simp only [go_sem, List.getElem?_toArray, Int.ofNat_eq_natCast, reduceIte, Nat.reduceEqDiff, Nat.reduceAdd, List.getElem?_cons_zero, List.getElem?_cons_succ, Bool.not_true, Bool.not_false]); simp only [go_sem, List.getElem?_toArray, Int.ofNat_eq_natCast, reduceIte, Nat.reduceEqDiff, Nat.reduceAdd, List.getElem?_cons_zero, List.getElem?_cons_succ, Bool.not_true, Bool.not_false]) | (refine sS rfl rfl ?_ ?_; (solve | simp only [go_sem, List.getElem?_toArray, Int.ofNat_eq_natCast, reduceIte, Nat.reduceEqDiff, Nat.reduceAdd, List.getElem?_cons_zero, List.getElem?_cons_succ, Bool.not_true, Bool.not_false]); simp only [go_sem, List.getElem?_toArray, Int.ofNat_eq_natCast, reduceIte, Nat.reduceEqDiff, Nat.reduceAdd, List.getElem?_cons_zero, List.getElem?_cons_succ, Bool.not_true, Bool.not_false])))
  (try simp only [go_sem, List.getElem?_toArray, Int.ofNat_eq_natCast, reduceIte, Nat.reduceEqDiff, Nat.reduceAdd, List.getElem?_cons_zero, List.getElem?_cons_succ, Bool.not_true, Bool.not_false])
  ((repeat refine codeTo_seq ?_); refine codeTo_region (by kernel_rfl) ?_)
  (repeat (first | refine opsTo_nil ?_ | (refine sV rfl rfl ?_; simp only [go_sem, List.getElem?_toArray, Int.ofNat_eq_natCast, reduceIte, Nat.reduceEqDiff, Nat.reduceAdd, List.getElem?_cons_zero, List.getElem?_cons_succ, Bool.not_true, Bool.not_false]) | (refine sR rfl rfl ?_; simp only [go_sem, List.getElem?_toArray, Int.ofNat_eq_natCast, reduceIte, Nat.reduceEqDiff, Nat.reduceAdd, List.getElem?_cons_zero, List.getElem?_cons_succ, Bool.not_true, Bool.not_false]) | (refine sM rfl rfl ?_; simp only [go_sem, List.getElem?_toArray, Int.ofNat_eq_natCast, reduceIte, Nat.reduceEqDiff, Nat.reduceAdd, List.getElem?_cons_zero, List.getElem?_cons_succ, Bool.not_true, Bool.not_false]) | (refine sVg rfl rfl ?_ ?_; (solve | simp only [go_sem, List.getElem?_toArray, Int.ofNat_eq_natCast, reduceIte, Nat.reduceEqDiff, Nat.reduceAdd, List.getElem?_cons_zero, List.getElem?_cons_succ, Bool.not_true, Bool.not_false]); simp only [go_sem, List.getElem?_toArray, Int.ofNat_eq_natCast, reduceIte, Nat.reduceEqDiff, Nat.reduceAdd, List.getElem?_cons_zero, List.getElem?_cons_succ, Bool.not_true, Bool.not_false]) | (refine sRg rfl rfl ?_ ?_; (solve | simp only [go_sem, List.getElem?_toArray, Int.ofNat_eq_natCast, reduceIte, Nat.reduceEqDiff, Nat.reduceAdd, List.getElem?_cons_zero, List.getElem?_cons_succ, Bool.not_true, Bool.not_false]); simp only [go_sem, List.getElem?_toArray, Int.ofNat_eq_natCast, reduceIte, Nat.reduceEqDiff, Nat.reduceAdd, List.getElem?_cons_zero, List.getElem?_cons_succ, Bool.not_true, Bool.not_false]) | (refine sS rfl rfl ?_ ?_; (solve | simp only [go_sem, List.getElem?_toArray, Int.ofNat_eq_natCast, reduceIte, Nat.reduceEqDiff, Nat.reduceAdd, List.getElem?_cons_zero, List.getElem?_cons_succ, Bool.not_true, Bool.not_false]); simp only [go_sem, List.getElem?_toArray, Int.ofNat_eq_natCast, reduceIte, Nat.reduceEqDiff, Nat.reduceAdd, List.getElem?_cons_zero, List.getElem?_cons_succ, Bool.not_true, Bool.not_false])))
  (try simp only [go_sem, List.getElem?_toArray, Int.ofNat_eq_natCast, reduceIte, Nat.reduceEqDiff, Nat.reduceAdd, List.getElem?_cons_zero, List.getElem?_cons_succ, Bool.not_true, Bool.not_false])
  ((repeat refine codeTo_seq ?_); refine codeTo_cond (t := false) ?_ (fun h => by cases h) (fun _ => ?_)); (solve | simp only [go_sem, List.getElem?_toArray, Int.ofNat_eq_natCast, reduceIte, Nat.reduceEqDiff, Nat.reduceAdd, List.getElem?_cons_zero, List.getElem?_cons_succ, Bool.not_true, Bool.not_false])
  ((repeat refine codeTo_seq ?_); refine codeTo_skip ?_)
  (try simp only [go_sem, List.getElem?_toArray, Int.ofNat_eq_natCast, reduceIte, Nat.reduceEqDiff, Nat.reduceAdd, List.getElem?_cons_zero, List.getElem?_cons_succ, Bool.not_true, Bool.not_false])
  ((repeat refine codeTo_seq ?_); refine codeTo_region (by kernel_rfl) ?_)
  (repeat (first | refine opsTo_nil ?_ | (refine sV rfl rfl ?_; simp only [go_sem, List.getElem?_toArray, Int.ofNat_eq_natCast, reduceIte, Nat.reduceEqDiff, Nat.reduceAdd, List.getElem?_cons_zero, List.getElem?_cons_succ, Bool.not_true, Bool.not_false, nilOk, fieldAddrC, und_58, size_3, c1]) | (refine sR rfl rfl ?_; simp only [go_sem, List.getElem?_toArray, Int.ofNat_eq_natCast, reduceIte, Nat.reduceEqDiff, Nat.reduceAdd, List.getElem?_cons_zero, List.getElem?_cons_succ, Bool.not_true, Bool.not_false, nilOk, fieldAddrC, und_58, size_3, c1]) | (refine sM rfl rfl ?_; simp only [go_sem, List.getElem?_toArray, Int.ofNat_eq_natCast, reduceIte, Nat.reduceEqDiff, Nat.reduceAdd, List.getElem?_cons_zero, List.getElem?_cons_succ, Bool.not_true, Bool.not_false, nilOk, fieldAddrC, und_58, size_3, c1]) | (refine sVg rfl rfl ?_ ?_; (solve | simp only [go_sem, List.getElem?_toArray, Int.ofNat_eq_natCast, reduceIte, Nat.reduceEqDiff, Nat.reduceAdd, List.getElem?_cons_zero, List.getElem?_cons_succ, Bool.not_true, Bool.not_false, nilOk, fieldAddrC, und_58, size_3, c1]); simp only [go_sem, List.getElem?_toArray, Int.ofNat_eq_natCast, reduceIte, Nat.reduceEqDiff, Nat.reduceAdd, List.getElem?_cons_zero, List.getElem?_cons_succ, Bool.not_true, Bool.not_false, nilOk, fieldAddrC, und_58, size_3, c1]) | (refine sRg rfl rfl ?_ ?_; (solve | simp only [go_sem, List.getElem?_toArray, Int.ofNat_eq_natCast, reduceIte, Nat.reduceEqDiff, Nat.reduceAdd, List.getElem?_cons_zero, List.getElem?_cons_succ, Bool.not_true, Bool.not_false, nilOk, fieldAddrC, und_58, size_3, c1]); simp only [go_sem, List.getElem?_toArray, Int.ofNat_eq_natCast, reduceIte, Nat.reduceEqDiff, Nat.reduceAdd, List.getElem?_cons_zero, List.getElem?_cons_succ, Bool.not_true, Bool.not_false, nilOk, fieldAddrC, und_58, size_3, c1]) | (refine sS rfl rfl ?_ ?_; (solve | simp only [go_sem, List.getElem?_toArray, Int.ofNat_eq_natCast, reduceIte, Nat.reduceEqDiff, Nat.reduceAdd, List.getElem?_cons_zero, List.getElem?_cons_succ, Bool.not_true, Bool.not_false, nilOk, fieldAddrC, und_58, size_3, c1]); simp only [go_sem, List.getElem?_toArray, Int.ofNat_eq_natCast, reduceIte, Nat.reduceEqDiff, Nat.reduceAdd, List.getElem?_cons_zero, List.getElem?_cons_succ, Bool.not_true, Bool.not_false, nilOk, fieldAddrC, und_58, size_3, c1])))
  ((repeat refine codeTo_seq ?_); refine codeTo_ret ?_; (try simp only [andThen_ret, outOf_ret]))
  refine hands_tmp (ts := [2]) rfl trivial ?_
  (try simp only [go_sem, List.getElem?_toArray, Int.ofNat_eq_natCast, reduceIte, Nat.reduceEqDiff, Nat.reduceAdd, List.getElem?_cons_zero, List.getElem?_cons_succ, Bool.not_true, Bool.not_false, List.map, tuV])
  exact ⟨trivial, trivial⟩

theorem mkMap {tm : Tr V} : (ac E (.makeMap 56 none)).run tm = some ⟨.map [] 0, .map⟩ := by kernel_rfl
theorem bld58 {tm : Tr V} {t a : Nat} (h : sl tm t = .m (some a)) {σ : St} : (vc E (.build 58 #[(0, .tmp t)])).run tm σ = some (.ag [.m (some a), .i .i64 0]) := by
  have e : (vc E (.build 58 #[(0, .tmp t)])).run tm σ = bindV ((opc E (.tmp t)).get tm) fun v => fillK (fun i => bcase (Nat.beq i 0) (some (0, 1)) (some (1, 1))) [.m none, .i .i64 0] [(0, v)] fun cs => some (.ag cs) := by kernel_rfl
  rw [e, opc_sl, h, bindV_go]
  rfl

theorem new_to {T : Tr Ctr} {σ : St} : FnTo E T 5 [] σ fun v σ' => v = .p (some (σ.next + 1, 0)) ∧ Led σ' (σ.next + 1) σ.next [] 0 ∧ Grow σ σ' ∧ σ'.next = σ.next + 2 := by
  refine fnTo (fn := Tryz.f5) (by kernel_rfl) rfl (by kernel_rfl) ?_
  rw [show Tryz.f5.ntmps = 4 from rfl]
  simp only [Tr.ofList]
  ((repeat refine codeTo_seq ?_); refine codeTo_region (by kernel_rfl) ?_)
  (repeat (first | refine opsTo_nil ?_ | (refine sV rfl rfl ?_; simp only [go_sem, List.getElem?_toArray, Int.ofNat_eq_natCast, reduceIte, Nat.reduceEqDiff, Nat.reduceAdd, List.getElem?_cons_zero, List.getElem?_cons_succ, Bool.not_true, Bool.not_false]) | (refine sR rfl rfl ?_; simp only [go_sem, List.getElem?_toArray, Int.ofNat_eq_natCast, reduceIte, Nat.reduceEqDiff, Nat.reduceAdd, List.getElem?_cons_zero, List.getElem?_cons_succ, Bool.not_true, Bool.not_false]) | (refine sM rfl rfl ?_; simp only [go_sem, List.getElem?_toArray, Int.ofNat_eq_natCast, reduceIte, Nat.reduceEqDiff, Nat.reduceAdd, List.getElem?_cons_zero, List.getElem?_cons_succ, Bool.not_true, Bool.not_false]) | (refine sVg rfl rfl ?_ ?_; (solve | simp only [go_sem, List.getElem?_toArray, Int.ofNat_eq_natCast, reduceIte, Nat.reduceEqDiff, Nat.reduceAdd, List.getElem?_cons_zero, List.getElem?_cons_succ, Bool.not_true, Bool.not_false]); simp only [go_sem, List.getElem?_toArray, Int.ofNat_eq_natCast, reduceIte, Nat.reduceEqDiff, Nat.reduceAdd, List.getElem?_cons_zero, List.getElem?_cons_succ, Bool.not_true, Bool.not_false]) | (refine sRg rfl rfl ?_ ?_; (solve | simp only [go_sem, List.getElem?_toArray, Int.ofNat_eq_natCast, reduceIte, Nat.reduceEqDiff, Nat.reduceAdd, List.getElem?_cons_zero, List.getElem?_cons_succ, Bool.not_true, Bool.not_false]); simp only [go_sem, List.getElem?_toArray, Int.ofNat_eq_natCast, reduceIte, Nat.reduceEqDiff, Nat.reduceAdd, List.getElem?_cons_zero, List.getElem?_cons_succ, Bool.not_true, Bool.not_false]) | (refine sS rfl rfl ?_ ?_; (solve | simp only [go_sem, List.getElem?_toArray, Int.ofNat_eq_natCast, reduceIte, Nat.reduceEqDiff, Nat.reduceAdd, List.getElem?_cons_zero, List.getElem?_cons_succ, Bool.not_true, Bool.not_false]); simp only [go_sem, List.getElem?_toArray, Int.ofNat_eq_natCast, reduceIte, Nat.reduceEqDiff, Nat.reduceAdd, List.getElem?_cons_zero, List.getElem?_cons_succ, Bool.not_true, Bool.not_false])))
  (try simp only [go_sem, List.getElem?_toArray, Int.ofNat_eq_natCast, reduceIte, Nat.reduceEqDiff, Nat.reduceAdd, List.getElem?_cons_zero, List.getElem?_cons_succ, Bool.not_true, Bool.not_false])
  ((repeat refine codeTo_seq ?_); refine codeTo_region (by kernel_rfl) ?_)
  refine sM rfl rfl ?_
  refine optP_mk mkMap ?_
  (try simp only [go_sem, List.getElem?_toArray, Int.ofNat_eq_natCast, reduceIte, Nat.reduceEqDiff, Nat.reduceAdd, List.getElem?_cons_zero, List.getElem?_cons_succ, Bool.not_true, Bool.not_false])
  refine sV rfl rfl ?_
  refine optP_mk (bld58 (a := σ.next) (by simp only [go_sem, List.getElem?_toArray, Int.ofNat_eq_natCast, reduceIte, Nat.reduceEqDiff, Nat.reduceAdd, List.getElem?_cons_zero, List.getElem?_cons_succ, Bool.not_true, Bool.not_false])) ?_
  (try simp only [go_sem, List.getElem?_toArray, Int.ofNat_eq_natCast, reduceIte, Nat.reduceEqDiff, Nat.reduceAdd, List.getElem?_cons_zero, List.getElem?_cons_succ, Bool.not_true, Bool.not_false])
  (repeat (first | refine opsTo_nil ?_ | (refine sV rfl rfl ?_; simp only [go_sem, List.getElem?_toArray, Int.ofNat_eq_natCast, reduceIte, Nat.reduceEqDiff, Nat.reduceAdd, List.getElem?_cons_zero, List.getElem?_cons_succ, Bool.not_true, Bool.not_false]) | (refine sR rfl rfl ?_; simp only [go_sem, List.getElem?_toArray, Int.ofNat_eq_natCast, reduceIte, Nat.reduceEqDiff, Nat.reduceAdd, List.getElem?_cons_zero, List.getElem?_cons_succ, Bool.not_true, Bool.not_false]) | (refine sM rfl rfl ?_; simp only [go_sem, List.getElem?_toArray, Int.ofNat_eq_natCast, reduceIte, Nat.reduceEqDiff, Nat.reduceAdd, List.getElem?_cons_zero, List.getElem?_cons_succ, Bool.not_true, Bool.not_false]) | (refine sVg rfl rfl ?_ ?_; (solve | simp only [go_sem, List.getElem?_toArray, Int.ofNat_eq_natCast, reduceIte, Nat.reduceEqDiff, Nat.reduceAdd, List.getElem?_cons_zero, List.getElem?_cons_succ, Bool.not_true, Bool.not_false]); simp only [go_sem, List.getElem?_toArray, Int.ofNat_eq_natCast, reduceIte, Nat.reduceEqDiff, Nat.reduceAdd, List.getElem?_cons_zero, List.getElem?_cons_succ, Bool.not_true, Bool.not_false]) | (refine sRg rfl rfl ?_ ?_; (solve | simp only [go_sem, List.getElem?_toArray, Int.ofNat_eq_natCast, reduceIte, Nat.reduceEqDiff, Nat.reduceAdd, List.getElem?_cons_zero, List.getElem?_cons_succ, Bool.not_true, Bool.not_false]); simp only [go_sem, List.getElem?_toArray, Int.ofNat_eq_natCast, reduceIte, Nat.reduceEqDiff, Nat.reduceAdd, List.getElem?_cons_zero, List.getElem?_cons_succ, Bool.not_true, Bool.not_false]) | (refine sS rfl rfl ?_ ?_; (solve | simp only [go_sem, List.getElem?_toArray, Int.ofNat_eq_natCast, reduceIte, Nat.reduceEqDiff, Nat.reduceAdd, List.getElem?_cons_zero, List.getElem?_cons_succ, Bool.not_true, Bool.not_false]); simp only [go_sem, List.getElem?_toArray, Int.ofNat_eq_natCast, reduceIte, Nat.reduceEqDiff, Nat.reduceAdd, List.getElem?_cons_zero, List.getElem?_cons_succ, Bool.not_true, Bool.not_false])))
  ((repeat refine codeTo_seq ?_); refine codeTo_ret ?_; (try simp only [andThen_ret, outOf_ret]))
  refine hands_tmp (ts := [0]) rfl trivial ?_
  (try simp only [go_sem, List.getElem?_toArray, Int.ofNat_eq_natCast, reduceIte, Nat.reduceEqDiff, Nat.reduceAdd, List.getElem?_cons_zero, List.getElem?_cons_succ, Bool.not_true, Bool.not_false, List.map, tuV])
  refine ⟨trivial, ⟨?_, [], 0, ?_, rfl⟩, (Grow.new _ _).new' _, by first | rfl | trivial⟩
  · rw [St.get_new]; exact if_pos rfl
  · rw [St.get_new, if_neg (by rw [St.new_next]; omega), St.get_new, if_pos rfl]
end Go.Proofs.Tz

/- Walks: (*Ledger).Note. -/
namespace Go.Proofs.Tz
open Go Go.AM
set_option maxRecDepth 100000

/-- What a ledger has behind names more. -/
def noteL (keys l : List (List Nat)) : List (List Nat) := l.foldl (fun ks h => if h ∈ ks then ks else ks ++ [h]) keys
theorem noteL_nil (keys : List (List Nat)) : noteL keys [] = keys := rfl
theorem noteL_cons (keys : List (List Nat)) (h : List Nat) (l : List (List Nat)) : noteL keys (h :: l) = noteL (if h ∈ keys then keys else keys ++ [h]) l := rfl
theorem noteL_len (l : List (List Nat)) : ∀ keys, keys.length ≤ (noteL keys l).length ∧ (noteL keys l).length ≤ keys.length + l.length := by
  induction l with
  | nil => intro keys; simp [noteL_nil]
  | cons h l ih =>
    intro keys
    rw [noteL_cons]
    have h1 := ih (if h ∈ keys then keys else keys ++ [h])
    have h2 : (if h ∈ keys then keys else keys ++ [h]).length = keys.length ∨ (if h ∈ keys then keys else keys ++ [h]).length = keys.length + 1 := by
      split
      · exact .inl rfl
      · exact .inr (by simp)
    rw [List.length_cons]
    omega
theorem noteL_len32 {l : List (List Nat)} : ∀ {keys : List (List Nat)}, Len32 keys → Len32 l → Len32 (noteL keys l) := by
  induction l with
  | nil => intro keys h _; exact h
  | cons x l ih =>
    intro keys h hl
    rw [noteL_cons]
    refine ih ?_ fun y hy => hl y (List.mem_cons_of_mem _ hy)
    split
    · exact h
    · exact h.app (Len32.one (hl x List.mem_cons_self))

/-- A name is put in. -/
theorem upd_led {σ : St} {g m : Nat} {keys : List (List Nat)} {tw : Nat} (h : Led σ g m keys tw) (hgm : g ≠ m) (hl : Len32 keys) {k : List Nat} (hk : k.length = 32) (hn : k ∉ keys) :
    ∃ b, mapUpdV E 24 (.m (some m)) (.ag (hv k)) (.b true) σ = some (.val undefV (σ.put m b)) ∧ Led (σ.put m b) g m (keys ++ [k]) tw := by
  obtain ⟨es, clock, h1, h2⟩ := h.m
  refine ⟨.map (es ++ [(.ag (hv k), .b true, clock)]) (clock + 1), ?_, ?_, ?_⟩
  · unfold mapUpdV
    dsimp only
    rw [h1]
    dsimp only
    rw [keyLen_24]
    have hf : keyFits (some 32) (.ag (hv k)) = true := by
      show Nat.beq (lenL (hv k)) 32 = true
      rw [lenL_eq, hv_len, hk]; rfl
    rw [hf, bcase_true]
    obtain ⟨_, f2⟩ := findK_led (α := Out) (σ := σ) (k := k) (yes := fun _ i => setEK (V.ag (hv k)) (V.b true) es i fun es => σ.putK m (.map es clock) (done undefV))
      (no := pushEK (V.ag (hv k), V.b true, clock) es fun es => forceN (clock + 1) fun clock => σ.putK m (.map es clock) (done undefV)) (i := 0) hk hl h2
    rw [f2 hn, pushEK_eq, forceN_eq, St.putK_eq]
    rfl
  · rw [St.get_put, if_neg hgm]; exact h.g
  · exact ⟨_, _, by rw [St.get_put, if_pos rfl], by rw [List.map_append, h2, List.map_append]; rfl⟩

theorem st24 {σ : St} {id : Nat} {c : List V} {el : TypeId} {x : List Nat} (h : σ.get id = some (.cells c el .ex)) (hc : c.length = 32) (hx : x.length = 32) : storeV 32 (.p (some (id, 0))) (.ag (hv x)) σ = some (.val undefV (σ.put id (.cells (hv x) el .ex))) := by
  show bcase (Nat.beq (lenL (hv x)) 32) (writeK σ id 0 (hv x) (done undefV)) none = _
  rw [lenL_eq, hv_len, hx, show Nat.beq 32 32 = true from rfl, bcase_true]
  unfold writeK
  rw [h]
  dsimp only
  rw [bcase_eq, if_pos (by rw [lenL_eq, lenL_eq, hv_len, hv_one, hx, hc]; rfl), splK_eq, spl_all (by rw [hv_len, hx, hc]), St.putK_eq]
  rfl
theorem stTw {σ : St} {g m : Nat} {tw : Int} {n : Int} (h : σ.get g = some (.cells [.m (some m), .i .i64 tw] 58 .ex)) : storeV 1 (.p (some (g, 1))) (.i .i64 n) σ = some (.val undefV (σ.put g (.cells [.m (some m), .i .i64 n] 58 .ex))) := by
  show bcase (Nat.beq (lenL [V.i .i64 n]) 1) (writeK σ g 1 [.i .i64 n] (done undefV)) none = _
  unfold writeK
  rw [h]
  dsimp only
  rw [show Nat.beq (lenL [V.i .i64 n]) 1 = true from rfl, bcase_true, bcase_eq, if_pos (by rfl), splK_eq, St.putK_eq]
  rfl

theorem note_to {T : Tr Ctr} (hT : T.get 10 = none) {σ₀ σ : St} {g m : Nat} {keys l : List (List Nat)} {tw : Nat} {v : V} (h : Led σ g m keys tw) (hl : Len32 keys) (hvv : SlAt σ₀ v l) (hll : Len32 l)
    (hG : Grow σ₀ σ) (h0 : σ₀.next ≤ g) (h1 : σ₀.next ≤ m) (hg : g < σ.next) (hm : m < σ.next) (hgm : g ≠ m) (hs : l.length ≤ 1000) (ht : tw ≤ 1000000) (hn : σ.next + 2 * l.length ≤ big) :
    FnTo E T 7 [.p (some (g, 0)), v] σ fun v' σ' => v' = .i .i64 ((noteL keys l).length - keys.length : Nat) ∧ Led σ' g m (noteL keys l) (tw + (l.length - ((noteL keys l).length - keys.length))) ∧ Grow σ₀ σ' ∧ σ.next ≤ σ'.next ∧ σ'.next ≤ σ.next + 2 * l.length
      ∧ ∀ id, id < σ.next → id ≠ g → id ≠ m → σ'.get id = σ.get id := by
  refine fnTo (fn := Tryz.f7) (by kernel_rfl) rfl (by kernel_rfl) ?_
  rw [show Tryz.f7.ntmps = 37 from rfl]
  simp only [Tr.ofList]
  obtain ⟨va, vcap, rfl⟩ := hvv.len
  ((repeat refine codeTo_seq ?_); refine codeTo_region (by kernel_rfl) ?_)
  (repeat (first | refine opsTo_nil ?_ | (refine sV rfl rfl ?_; simp only [go_sem, List.getElem?_toArray, Int.ofNat_eq_natCast, reduceIte, Nat.reduceEqDiff, Nat.reduceAdd, List.getElem?_cons_zero, List.getElem?_cons_succ, Bool.not_true, Bool.not_false]) | (refine sR rfl rfl ?_; simp only [go_sem, List.getElem?_toArray, Int.ofNat_eq_natCast, reduceIte, Nat.reduceEqDiff, Nat.reduceAdd, List.getElem?_cons_zero, List.getElem?_cons_succ, Bool.not_true, Bool.not_false]) | (refine sM rfl rfl ?_; simp only [go_sem, List.getElem?_toArray, Int.ofNat_eq_natCast, reduceIte, Nat.reduceEqDiff, Nat.reduceAdd, List.getElem?_cons_zero, List.getElem?_cons_succ, Bool.not_true, Bool.not_false]) | (refine sVg rfl rfl ?_ ?_; (solve | simp only [go_sem, List.getElem?_toArray, Int.ofNat_eq_natCast, reduceIte, Nat.reduceEqDiff, Nat.reduceAdd, List.getElem?_cons_zero, List.getElem?_cons_succ, Bool.not_true, Bool.not_false]); simp only [go_sem, List.getElem?_toArray, Int.ofNat_eq_natCast, reduceIte, Nat.reduceEqDiff, Nat.reduceAdd, List.getElem?_cons_zero, List.getElem?_cons_succ, Bool.not_true, Bool.not_false]) | (refine sRg rfl rfl ?_ ?_; (solve | simp only [go_sem, List.getElem?_toArray, Int.ofNat_eq_natCast, reduceIte, Nat.reduceEqDiff, Nat.reduceAdd, List.getElem?_cons_zero, List.getElem?_cons_succ, Bool.not_true, Bool.not_false]); simp only [go_sem, List.getElem?_toArray, Int.ofNat_eq_natCast, reduceIte, Nat.reduceEqDiff, Nat.reduceAdd, List.getElem?_cons_zero, List.getElem?_cons_succ, Bool.not_true, Bool.not_false]) | (refine sS rfl rfl ?_ ?_; (solve | simp only [go_sem, List.getElem?_toArray, Int.ofNat_eq_natCast, reduceIte, Nat.reduceEqDiff, Nat.reduceAdd, List.getElem?_cons_zero, List.getElem?_cons_succ, Bool.not_true, Bool.not_false]); simp only [go_sem, List.getElem?_toArray, Int.ofNat_eq_natCast, reduceIte, Nat.reduceEqDiff, Nat.reduceAdd, List.getElem?_cons_zero, List.getElem?_cons_succ, Bool.not_true, Bool.not_false])))
  (try simp only [go_sem, List.getElem?_toArray, Int.ofNat_eq_natCast, reduceIte, Nat.reduceEqDiff, Nat.reduceAdd, List.getElem?_cons_zero, List.getElem?_cons_succ, Bool.not_true, Bool.not_false])
  ((repeat refine codeTo_seq ?_); refine codeTo_region (by kernel_rfl) ?_)
  (repeat (first | refine opsTo_nil ?_ | (refine sV rfl rfl ?_; simp only [go_sem, List.getElem?_toArray, Int.ofNat_eq_natCast, reduceIte, Nat.reduceEqDiff, Nat.reduceAdd, List.getElem?_cons_zero, List.getElem?_cons_succ, Bool.not_true, Bool.not_false]) | (refine sR rfl rfl ?_; simp only [go_sem, List.getElem?_toArray, Int.ofNat_eq_natCast, reduceIte, Nat.reduceEqDiff, Nat.reduceAdd, List.getElem?_cons_zero, List.getElem?_cons_succ, Bool.not_true, Bool.not_false]) | (refine sM rfl rfl ?_; simp only [go_sem, List.getElem?_toArray, Int.ofNat_eq_natCast, reduceIte, Nat.reduceEqDiff, Nat.reduceAdd, List.getElem?_cons_zero, List.getElem?_cons_succ, Bool.not_true, Bool.not_false]) | (refine sVg rfl rfl ?_ ?_; (solve | simp only [go_sem, List.getElem?_toArray, Int.ofNat_eq_natCast, reduceIte, Nat.reduceEqDiff, Nat.reduceAdd, List.getElem?_cons_zero, List.getElem?_cons_succ, Bool.not_true, Bool.not_false]); simp only [go_sem, List.getElem?_toArray, Int.ofNat_eq_natCast, reduceIte, Nat.reduceEqDiff, Nat.reduceAdd, List.getElem?_cons_zero, List.getElem?_cons_succ, Bool.not_true, Bool.not_false]) | (refine sRg rfl rfl ?_ ?_; (solve | simp only [go_sem, List.getElem?_toArray, Int.ofNat_eq_natCast, reduceIte, Nat.reduceEqDiff, Nat.reduceAdd, List.getElem?_cons_zero, List.getElem?_cons_succ, Bool.not_true, Bool.not_false]); simp only [go_sem, List.getElem?_toArray, Int.ofNat_eq_natCast, reduceIte, Nat.reduceEqDiff, Nat.reduceAdd, List.getElem?_cons_zero, List.getElem?_cons_succ, Bool.not_true, Bool.not_false]) | (refine sS rfl rfl ?_ ?_; (solve | simp only [go_sem, List.getElem?_toArray, Int.ofNat_eq_natCast, reduceIte, Nat.reduceEqDiff, Nat.reduceAdd, List.getElem?_cons_zero, List.getElem?_cons_succ, Bool.not_true, Bool.not_false]); simp only [go_sem, List.getElem?_toArray, Int.ofNat_eq_natCast, reduceIte, Nat.reduceEqDiff, Nat.reduceAdd, List.getElem?_cons_zero, List.getElem?_cons_succ, Bool.not_true, Bool.not_false])))
  (try simp only [go_sem, List.getElem?_toArray, Int.ofNat_eq_natCast, reduceIte, Nat.reduceEqDiff, Nat.reduceAdd, List.getElem?_cons_zero, List.getElem?_cons_succ, Bool.not_true, Bool.not_false])
  ((repeat refine codeTo_seq ?_); refine codeTo_cond (t := false) ?_ (fun h => by cases h) (fun _ => ?_)); (solve | simp only [go_sem, List.getElem?_toArray, Int.ofNat_eq_natCast, reduceIte, Nat.reduceEqDiff, Nat.reduceAdd, List.getElem?_cons_zero, List.getElem?_cons_succ, Bool.not_true, Bool.not_false])
  ((repeat refine codeTo_seq ?_); refine codeTo_skip ?_)
  (try simp only [go_sem, List.getElem?_toArray, Int.ofNat_eq_natCast, reduceIte, Nat.reduceEqDiff, Nat.reduceAdd, List.getElem?_cons_zero, List.getElem?_cons_succ, Bool.not_true, Bool.not_false])
  ((repeat refine codeTo_seq ?_); refine codeTo_region (by kernel_rfl) ?_)
  (repeat (first | refine opsTo_nil ?_ | (refine sV rfl rfl ?_; simp only [go_sem, List.getElem?_toArray, Int.ofNat_eq_natCast, reduceIte, Nat.reduceEqDiff, Nat.reduceAdd, List.getElem?_cons_zero, List.getElem?_cons_succ, Bool.not_true, Bool.not_false]) | (refine sR rfl rfl ?_; simp only [go_sem, List.getElem?_toArray, Int.ofNat_eq_natCast, reduceIte, Nat.reduceEqDiff, Nat.reduceAdd, List.getElem?_cons_zero, List.getElem?_cons_succ, Bool.not_true, Bool.not_false]) | (refine sM rfl rfl ?_; simp only [go_sem, List.getElem?_toArray, Int.ofNat_eq_natCast, reduceIte, Nat.reduceEqDiff, Nat.reduceAdd, List.getElem?_cons_zero, List.getElem?_cons_succ, Bool.not_true, Bool.not_false]) | (refine sVg rfl rfl ?_ ?_; (solve | simp only [go_sem, List.getElem?_toArray, Int.ofNat_eq_natCast, reduceIte, Nat.reduceEqDiff, Nat.reduceAdd, List.getElem?_cons_zero, List.getElem?_cons_succ, Bool.not_true, Bool.not_false]); simp only [go_sem, List.getElem?_toArray, Int.ofNat_eq_natCast, reduceIte, Nat.reduceEqDiff, Nat.reduceAdd, List.getElem?_cons_zero, List.getElem?_cons_succ, Bool.not_true, Bool.not_false]) | (refine sRg rfl rfl ?_ ?_; (solve | simp only [go_sem, List.getElem?_toArray, Int.ofNat_eq_natCast, reduceIte, Nat.reduceEqDiff, Nat.reduceAdd, List.getElem?_cons_zero, List.getElem?_cons_succ, Bool.not_true, Bool.not_false]); simp only [go_sem, List.getElem?_toArray, Int.ofNat_eq_natCast, reduceIte, Nat.reduceEqDiff, Nat.reduceAdd, List.getElem?_cons_zero, List.getElem?_cons_succ, Bool.not_true, Bool.not_false]) | (refine sS rfl rfl ?_ ?_; (solve | simp only [go_sem, List.getElem?_toArray, Int.ofNat_eq_natCast, reduceIte, Nat.reduceEqDiff, Nat.reduceAdd, List.getElem?_cons_zero, List.getElem?_cons_succ, Bool.not_true, Bool.not_false]); simp only [go_sem, List.getElem?_toArray, Int.ofNat_eq_natCast, reduceIte, Nat.reduceEqDiff, Nat.reduceAdd, List.getElem?_cons_zero, List.getElem?_cons_succ, Bool.not_true, Bool.not_false])))
  (try simp only [go_sem, List.getElem?_toArray, Int.ofNat_eq_natCast, reduceIte, Nat.reduceEqDiff, Nat.reduceAdd, List.getElem?_cons_zero, List.getElem?_cons_succ, Bool.not_true, Bool.not_false])
  ((repeat refine codeTo_seq ?_); refine codeTo_region (by kernel_rfl) ?_)
  (repeat (first | refine opsTo_nil ?_ | (refine sV rfl rfl ?_; simp only [go_sem, List.getElem?_toArray, Int.ofNat_eq_natCast, reduceIte, Nat.reduceEqDiff, Nat.reduceAdd, List.getElem?_cons_zero, List.getElem?_cons_succ, Bool.not_true, Bool.not_false, lenC, und_28]) | (refine sR rfl rfl ?_; simp only [go_sem, List.getElem?_toArray, Int.ofNat_eq_natCast, reduceIte, Nat.reduceEqDiff, Nat.reduceAdd, List.getElem?_cons_zero, List.getElem?_cons_succ, Bool.not_true, Bool.not_false, lenC, und_28]) | (refine sM rfl rfl ?_; simp only [go_sem, List.getElem?_toArray, Int.ofNat_eq_natCast, reduceIte, Nat.reduceEqDiff, Nat.reduceAdd, List.getElem?_cons_zero, List.getElem?_cons_succ, Bool.not_true, Bool.not_false, lenC, und_28]) | (refine sVg rfl rfl ?_ ?_; (solve | simp only [go_sem, List.getElem?_toArray, Int.ofNat_eq_natCast, reduceIte, Nat.reduceEqDiff, Nat.reduceAdd, List.getElem?_cons_zero, List.getElem?_cons_succ, Bool.not_true, Bool.not_false, lenC, und_28]); simp only [go_sem, List.getElem?_toArray, Int.ofNat_eq_natCast, reduceIte, Nat.reduceEqDiff, Nat.reduceAdd, List.getElem?_cons_zero, List.getElem?_cons_succ, Bool.not_true, Bool.not_false, lenC, und_28]) | (refine sRg rfl rfl ?_ ?_; (solve | simp only [go_sem, List.getElem?_toArray, Int.ofNat_eq_natCast, reduceIte, Nat.reduceEqDiff, Nat.reduceAdd, List.getElem?_cons_zero, List.getElem?_cons_succ, Bool.not_true, Bool.not_false, lenC, und_28]); simp only [go_sem, List.getElem?_toArray, Int.ofNat_eq_natCast, reduceIte, Nat.reduceEqDiff, Nat.reduceAdd, List.getElem?_cons_zero, List.getElem?_cons_succ, Bool.not_true, Bool.not_false, lenC, und_28]) | (refine sS rfl rfl ?_ ?_; (solve | simp only [go_sem, List.getElem?_toArray, Int.ofNat_eq_natCast, reduceIte, Nat.reduceEqDiff, Nat.reduceAdd, List.getElem?_cons_zero, List.getElem?_cons_succ, Bool.not_true, Bool.not_false, lenC, und_28]); simp only [go_sem, List.getElem?_toArray, Int.ofNat_eq_natCast, reduceIte, Nat.reduceEqDiff, Nat.reduceAdd, List.getElem?_cons_zero, List.getElem?_cons_succ, Bool.not_true, Bool.not_false, lenC, und_28])))
  (try simp only [go_sem, List.getElem?_toArray, Int.ofNat_eq_natCast, reduceIte, Nat.reduceEqDiff, Nat.reduceAdd, List.getElem?_cons_zero, List.getElem?_cons_succ, Bool.not_true, Bool.not_false])
  ((repeat refine codeTo_seq ?_); refine codeTo_blockK (df := []) (fun tm σ' => sl tm 4 = .i .i64 ((noteL keys l).length - keys.length : Nat) ∧ Led σ' g m (noteL keys l) (tw + (l.length - ((noteL keys l).length - keys.length))) ∧ Grow σ₀ σ' ∧ σ.next ≤ σ'.next ∧ σ'.next ≤ σ.next + 2 * l.length
      ∧ ∀ id, id < σ.next → id ≠ g → id ≠ m → σ'.get id = σ.get id) ?_ ?_)
  rotate_left
  · rintro tm σ' ⟨q1, q2⟩
    (try simp only [go_sem, List.getElem?_toArray, Int.ofNat_eq_natCast, reduceIte, Nat.reduceEqDiff, Nat.reduceAdd, List.getElem?_cons_zero, List.getElem?_cons_succ, Bool.not_true, Bool.not_false])
    ((repeat refine codeTo_seq ?_); refine codeTo_region (by kernel_rfl) ?_)
    (repeat (first | refine opsTo_nil ?_ | (refine sV rfl rfl ?_; simp only [go_sem, List.getElem?_toArray, Int.ofNat_eq_natCast, reduceIte, Nat.reduceEqDiff, Nat.reduceAdd, List.getElem?_cons_zero, List.getElem?_cons_succ, Bool.not_true, Bool.not_false]) | (refine sR rfl rfl ?_; simp only [go_sem, List.getElem?_toArray, Int.ofNat_eq_natCast, reduceIte, Nat.reduceEqDiff, Nat.reduceAdd, List.getElem?_cons_zero, List.getElem?_cons_succ, Bool.not_true, Bool.not_false]) | (refine sM rfl rfl ?_; simp only [go_sem, List.getElem?_toArray, Int.ofNat_eq_natCast, reduceIte, Nat.reduceEqDiff, Nat.reduceAdd, List.getElem?_cons_zero, List.getElem?_cons_succ, Bool.not_true, Bool.not_false]) | (refine sVg rfl rfl ?_ ?_; (solve | simp only [go_sem, List.getElem?_toArray, Int.ofNat_eq_natCast, reduceIte, Nat.reduceEqDiff, Nat.reduceAdd, List.getElem?_cons_zero, List.getElem?_cons_succ, Bool.not_true, Bool.not_false]); simp only [go_sem, List.getElem?_toArray, Int.ofNat_eq_natCast, reduceIte, Nat.reduceEqDiff, Nat.reduceAdd, List.getElem?_cons_zero, List.getElem?_cons_succ, Bool.not_true, Bool.not_false]) | (refine sRg rfl rfl ?_ ?_; (solve | simp only [go_sem, List.getElem?_toArray, Int.ofNat_eq_natCast, reduceIte, Nat.reduceEqDiff, Nat.reduceAdd, List.getElem?_cons_zero, List.getElem?_cons_succ, Bool.not_true, Bool.not_false]); simp only [go_sem, List.getElem?_toArray, Int.ofNat_eq_natCast, reduceIte, Nat.reduceEqDiff, Nat.reduceAdd, List.getElem?_cons_zero, List.getElem?_cons_succ, Bool.not_true, Bool.not_false]) | (refine sS rfl rfl ?_ ?_; (solve | simp only [go_sem, List.getElem?_toArray, Int.ofNat_eq_natCast, reduceIte, Nat.reduceEqDiff, Nat.reduceAdd, List.getElem?_cons_zero, List.getElem?_cons_succ, Bool.not_true, Bool.not_false]); simp only [go_sem, List.getElem?_toArray, Int.ofNat_eq_natCast, reduceIte, Nat.reduceEqDiff, Nat.reduceAdd, List.getElem?_cons_zero, List.getElem?_cons_succ, Bool.not_true, Bool.not_false])))
    ((repeat refine codeTo_seq ?_); refine codeTo_ret ?_; (try simp only [andThen_ret, outOf_ret]))
    refine hands_tmp (ts := [4]) rfl trivial ?_
    (try simp only [go_sem, List.getElem?_toArray, Int.ofNat_eq_natCast, reduceIte, Nat.reduceEqDiff, Nat.reduceAdd, List.getElem?_cons_zero, List.getElem?_cons_succ, Bool.not_true, Bool.not_false, List.map, tuV, q1])
    exact ⟨trivial, q2⟩
  have hlen := noteL_len l keys
  refine atLoop (fun (i : Nat) tm σ' => i ≤ l.length ∧ Led σ' g m (noteL keys (l.take i)) (tw + (i - ((noteL keys (l.take i)).length - keys.length))) ∧ Grow σ₀ σ' ∧ σ.next ≤ σ'.next ∧ σ'.next ≤ σ.next + 2 * i
      ∧ (∀ id, id < σ.next → id ≠ g → id ≠ m → σ'.get id = σ.get id)
      ∧ sl tm 0 = .p (some (g, 0)) ∧ sl tm 4 = .i .i64 ((noteL keys (l.take i)).length - keys.length : Nat) ∧ sl tm 5 = .f (.func 10) [.p (some (g, 0))] [] ∧ sl tm 12 = .sl va l.length vcap ∧ sl tm 13 = .i .i64 (l.length : Nat) ∧ sl tm 14 = .i .i64 (i : Nat)) 0
    ⟨Nat.zero_le _, by simpa [noteL_nil] using h, hG, Nat.le_refl _, Nat.le_refl _, fun _ _ _ _ => rfl, by simp only [go_sem, List.getElem?_toArray, Int.ofNat_eq_natCast, reduceIte, Nat.reduceEqDiff, Nat.reduceAdd, List.getElem?_cons_zero, List.getElem?_cons_succ, Bool.not_true, Bool.not_false], by simp only [go_sem, List.getElem?_toArray, Int.ofNat_eq_natCast, reduceIte, Nat.reduceEqDiff, Nat.reduceAdd, List.getElem?_cons_zero, List.getElem?_cons_succ, Bool.not_true, Bool.not_false, List.take_zero, noteL_nil, Nat.sub_self]; rfl, by simp only [go_sem, List.getElem?_toArray, Int.ofNat_eq_natCast, reduceIte, Nat.reduceEqDiff, Nat.reduceAdd, List.getElem?_cons_zero, List.getElem?_cons_succ, Bool.not_true, Bool.not_false], by simp only [go_sem, List.getElem?_toArray, Int.ofNat_eq_natCast, reduceIte, Nat.reduceEqDiff, Nat.reduceAdd, List.getElem?_cons_zero, List.getElem?_cons_succ, Bool.not_true, Bool.not_false], by simp only [go_sem, List.getElem?_toArray, Int.ofNat_eq_natCast, reduceIte, Nat.reduceEqDiff, Nat.reduceAdd, List.getElem?_cons_zero, List.getElem?_cons_succ, Bool.not_true, Bool.not_false], by simp only [go_sem, List.getElem?_toArray, Int.ofNat_eq_natCast, reduceIte, Nat.reduceEqDiff, Nat.reduceAdd, List.getElem?_cons_zero, List.getElem?_cons_succ, Bool.not_true, Bool.not_false]; rfl⟩ ?_
  intro i
  generalize hk : l.length - i = j
  induction j generalizing i with
  | zero =>
    rintro tm τ ⟨k1, kL, kG, kA, kB, kF, t0, t4, t5, t12, t13, t14⟩
    have hi : i = l.length := by omega
    subst hi
    rw [List.take_length] at kL t4
    have d : decide ((l.length : Int) < (l.length : Int)) = false := decide_eq_false (by omega)
    ((repeat refine codeTo_seq ?_); refine codeTo_loop ?_)
    ((repeat refine codeTo_seq ?_); refine codeTo_region (by kernel_rfl) ?_)
    (repeat (first | refine opsTo_nil ?_ | (refine sV rfl rfl ?_; simp only [go_sem, List.getElem?_toArray, Int.ofNat_eq_natCast, reduceIte, Nat.reduceEqDiff, Nat.reduceAdd, List.getElem?_cons_zero, List.getElem?_cons_succ, Bool.not_true, Bool.not_false, t13, t14, d]) | (refine sR rfl rfl ?_; simp only [go_sem, List.getElem?_toArray, Int.ofNat_eq_natCast, reduceIte, Nat.reduceEqDiff, Nat.reduceAdd, List.getElem?_cons_zero, List.getElem?_cons_succ, Bool.not_true, Bool.not_false, t13, t14, d]) | (refine sM rfl rfl ?_; simp only [go_sem, List.getElem?_toArray, Int.ofNat_eq_natCast, reduceIte, Nat.reduceEqDiff, Nat.reduceAdd, List.getElem?_cons_zero, List.getElem?_cons_succ, Bool.not_true, Bool.not_false, t13, t14, d]) | (refine sVg rfl rfl ?_ ?_; (solve | simp only [go_sem, List.getElem?_toArray, Int.ofNat_eq_natCast, reduceIte, Nat.reduceEqDiff, Nat.reduceAdd, List.getElem?_cons_zero, List.getElem?_cons_succ, Bool.not_true, Bool.not_false, t13, t14, d]); simp only [go_sem, List.getElem?_toArray, Int.ofNat_eq_natCast, reduceIte, Nat.reduceEqDiff, Nat.reduceAdd, List.getElem?_cons_zero, List.getElem?_cons_succ, Bool.not_true, Bool.not_false, t13, t14, d]) | (refine sRg rfl rfl ?_ ?_; (solve | simp only [go_sem, List.getElem?_toArray, Int.ofNat_eq_natCast, reduceIte, Nat.reduceEqDiff, Nat.reduceAdd, List.getElem?_cons_zero, List.getElem?_cons_succ, Bool.not_true, Bool.not_false, t13, t14, d]); simp only [go_sem, List.getElem?_toArray, Int.ofNat_eq_natCast, reduceIte, Nat.reduceEqDiff, Nat.reduceAdd, List.getElem?_cons_zero, List.getElem?_cons_succ, Bool.not_true, Bool.not_false, t13, t14, d]) | (refine sS rfl rfl ?_ ?_; (solve | simp only [go_sem, List.getElem?_toArray, Int.ofNat_eq_natCast, reduceIte, Nat.reduceEqDiff, Nat.reduceAdd, List.getElem?_cons_zero, List.getElem?_cons_succ, Bool.not_true, Bool.not_false, t13, t14, d]); simp only [go_sem, List.getElem?_toArray, Int.ofNat_eq_natCast, reduceIte, Nat.reduceEqDiff, Nat.reduceAdd, List.getElem?_cons_zero, List.getElem?_cons_succ, Bool.not_true, Bool.not_false, t13, t14, d])))
    (try simp only [go_sem, List.getElem?_toArray, Int.ofNat_eq_natCast, reduceIte, Nat.reduceEqDiff, Nat.reduceAdd, List.getElem?_cons_zero, List.getElem?_cons_succ, Bool.not_true, Bool.not_false])
    ((repeat refine codeTo_seq ?_); refine codeTo_cond (t := false) ?_ (fun h => by cases h) (fun _ => ?_)); (solve | simp only [go_sem, List.getElem?_toArray, Int.ofNat_eq_natCast, reduceIte, Nat.reduceEqDiff, Nat.reduceAdd, List.getElem?_cons_zero, List.getElem?_cons_succ, Bool.not_true, Bool.not_false])
    ((repeat refine codeTo_seq ?_); refine codeTo_exit ?_; (repeat rw [andThen_exit]))
    exact ⟨rfl, _, rfl, by simp only [go_sem, List.getElem?_toArray, Int.ofNat_eq_natCast, reduceIte, Nat.reduceEqDiff, Nat.reduceAdd, List.getElem?_cons_zero, List.getElem?_cons_succ, Bool.not_true, Bool.not_false, t4], kL, kG, kA, kB, kF⟩
  | succ j ih =>
    rintro tm τ ⟨k1, kL, kG, kA, kB, kF, t0, t4, t5, t12, t13, t14⟩
    have hi : i < l.length := by omega
    have d : decide ((i : Int) < (l.length : Int)) = true := decide_eq_true (by omega)
    have hx32 : l[i].length = 32 := hll _ (List.getElem_mem hi)
    have hL32 : Len32 (noteL keys (l.take i)) := noteL_len32 hl (hll.take i)
    obtain ⟨lid, loff, lc, lel, lmd, l1, l0, l2, l3⟩ := (hvv.grow kG).elem hll hi
    have lc' := fun (k : List V → Option V) => cellsAt_go (k := k) l2
    have hstep : noteL keys (l.take (i + 1)) = if l[i] ∈ noteL keys (l.take i) then noteL keys (l.take i) else noteL keys (l.take i) ++ [l[i]] := by
      rw [List.take_succ_eq_append_getElem hi]
      unfold noteL
      rw [List.foldl_append]
      rfl
    have hli := noteL_len (l.take i) keys
    rw [List.length_take, Nat.min_eq_left k1] at hli
    ((repeat refine codeTo_seq ?_); refine codeTo_loop ?_)
    ((repeat refine codeTo_seq ?_); refine codeTo_region (by kernel_rfl) ?_)
    (repeat (first | refine opsTo_nil ?_ | (refine sV rfl rfl ?_; simp only [go_sem, List.getElem?_toArray, Int.ofNat_eq_natCast, reduceIte, Nat.reduceEqDiff, Nat.reduceAdd, List.getElem?_cons_zero, List.getElem?_cons_succ, Bool.not_true, Bool.not_false, t13, t14, d]) | (refine sR rfl rfl ?_; simp only [go_sem, List.getElem?_toArray, Int.ofNat_eq_natCast, reduceIte, Nat.reduceEqDiff, Nat.reduceAdd, List.getElem?_cons_zero, List.getElem?_cons_succ, Bool.not_true, Bool.not_false, t13, t14, d]) | (refine sM rfl rfl ?_; simp only [go_sem, List.getElem?_toArray, Int.ofNat_eq_natCast, reduceIte, Nat.reduceEqDiff, Nat.reduceAdd, List.getElem?_cons_zero, List.getElem?_cons_succ, Bool.not_true, Bool.not_false, t13, t14, d]) | (refine sVg rfl rfl ?_ ?_; (solve | simp only [go_sem, List.getElem?_toArray, Int.ofNat_eq_natCast, reduceIte, Nat.reduceEqDiff, Nat.reduceAdd, List.getElem?_cons_zero, List.getElem?_cons_succ, Bool.not_true, Bool.not_false, t13, t14, d]); simp only [go_sem, List.getElem?_toArray, Int.ofNat_eq_natCast, reduceIte, Nat.reduceEqDiff, Nat.reduceAdd, List.getElem?_cons_zero, List.getElem?_cons_succ, Bool.not_true, Bool.not_false, t13, t14, d]) | (refine sRg rfl rfl ?_ ?_; (solve | simp only [go_sem, List.getElem?_toArray, Int.ofNat_eq_natCast, reduceIte, Nat.reduceEqDiff, Nat.reduceAdd, List.getElem?_cons_zero, List.getElem?_cons_succ, Bool.not_true, Bool.not_false, t13, t14, d]); simp only [go_sem, List.getElem?_toArray, Int.ofNat_eq_natCast, reduceIte, Nat.reduceEqDiff, Nat.reduceAdd, List.getElem?_cons_zero, List.getElem?_cons_succ, Bool.not_true, Bool.not_false, t13, t14, d]) | (refine sS rfl rfl ?_ ?_; (solve | simp only [go_sem, List.getElem?_toArray, Int.ofNat_eq_natCast, reduceIte, Nat.reduceEqDiff, Nat.reduceAdd, List.getElem?_cons_zero, List.getElem?_cons_succ, Bool.not_true, Bool.not_false, t13, t14, d]); simp only [go_sem, List.getElem?_toArray, Int.ofNat_eq_natCast, reduceIte, Nat.reduceEqDiff, Nat.reduceAdd, List.getElem?_cons_zero, List.getElem?_cons_succ, Bool.not_true, Bool.not_false, t13, t14, d])))
    (try simp only [go_sem, List.getElem?_toArray, Int.ofNat_eq_natCast, reduceIte, Nat.reduceEqDiff, Nat.reduceAdd, List.getElem?_cons_zero, List.getElem?_cons_succ, Bool.not_true, Bool.not_false])
    ((repeat refine codeTo_seq ?_); refine codeTo_cond (t := true) ?_ (fun _ => ?_) (fun h => by cases h)); (solve | simp only [go_sem, List.getElem?_toArray, Int.ofNat_eq_natCast, reduceIte, Nat.reduceEqDiff, Nat.reduceAdd, List.getElem?_cons_zero, List.getElem?_cons_succ, Bool.not_true, Bool.not_false])
    ((repeat refine codeTo_seq ?_); refine codeTo_skip ?_)
    (try simp only [go_sem, List.getElem?_toArray, Int.ofNat_eq_natCast, reduceIte, Nat.reduceEqDiff, Nat.reduceAdd, List.getElem?_cons_zero, List.getElem?_cons_succ, Bool.not_true, Bool.not_false])
    ((repeat refine codeTo_seq ?_); refine codeTo_block ?_)
    ((repeat refine codeTo_seq ?_); refine codeTo_region (by kernel_rfl) ?_)
    (repeat (first | refine opsTo_nil ?_ | (refine sV rfl rfl ?_; simp only [go_sem, List.getElem?_toArray, Int.ofNat_eq_natCast, reduceIte, Nat.reduceEqDiff, Nat.reduceAdd, List.getElem?_cons_zero, List.getElem?_cons_succ, Bool.not_true, Bool.not_false, t12, t14, size_24, l1, lc', l3, zero_24]) | (refine sR rfl rfl ?_; simp only [go_sem, List.getElem?_toArray, Int.ofNat_eq_natCast, reduceIte, Nat.reduceEqDiff, Nat.reduceAdd, List.getElem?_cons_zero, List.getElem?_cons_succ, Bool.not_true, Bool.not_false, t12, t14, size_24, l1, lc', l3, zero_24]) | (refine sM rfl rfl ?_; simp only [go_sem, List.getElem?_toArray, Int.ofNat_eq_natCast, reduceIte, Nat.reduceEqDiff, Nat.reduceAdd, List.getElem?_cons_zero, List.getElem?_cons_succ, Bool.not_true, Bool.not_false, t12, t14, size_24, l1, lc', l3, zero_24]) | (refine sVg rfl rfl ?_ ?_; (solve | simp only [go_sem, List.getElem?_toArray, Int.ofNat_eq_natCast, reduceIte, Nat.reduceEqDiff, Nat.reduceAdd, List.getElem?_cons_zero, List.getElem?_cons_succ, Bool.not_true, Bool.not_false, t12, t14, size_24, l1, lc', l3, zero_24]); simp only [go_sem, List.getElem?_toArray, Int.ofNat_eq_natCast, reduceIte, Nat.reduceEqDiff, Nat.reduceAdd, List.getElem?_cons_zero, List.getElem?_cons_succ, Bool.not_true, Bool.not_false, t12, t14, size_24, l1, lc', l3, zero_24]) | (refine sRg rfl rfl ?_ ?_; (solve | simp only [go_sem, List.getElem?_toArray, Int.ofNat_eq_natCast, reduceIte, Nat.reduceEqDiff, Nat.reduceAdd, List.getElem?_cons_zero, List.getElem?_cons_succ, Bool.not_true, Bool.not_false, t12, t14, size_24, l1, lc', l3, zero_24]); simp only [go_sem, List.getElem?_toArray, Int.ofNat_eq_natCast, reduceIte, Nat.reduceEqDiff, Nat.reduceAdd, List.getElem?_cons_zero, List.getElem?_cons_succ, Bool.not_true, Bool.not_false, t12, t14, size_24, l1, lc', l3, zero_24]) | (refine sS rfl rfl ?_ ?_; (solve | simp only [go_sem, List.getElem?_toArray, Int.ofNat_eq_natCast, reduceIte, Nat.reduceEqDiff, Nat.reduceAdd, List.getElem?_cons_zero, List.getElem?_cons_succ, Bool.not_true, Bool.not_false, t12, t14, size_24, l1, lc', l3, zero_24]); simp only [go_sem, List.getElem?_toArray, Int.ofNat_eq_natCast, reduceIte, Nat.reduceEqDiff, Nat.reduceAdd, List.getElem?_cons_zero, List.getElem?_cons_succ, Bool.not_true, Bool.not_false, t12, t14, size_24, l1, lc', l3, zero_24])))
    have n1 : Grow τ (τ.new (.cells (V.ag (hv (List.replicate 32 0))).cells 24 .ex)) := Grow.new _ _
    have n2 : (τ.new (.cells (V.ag (hv (List.replicate 32 0))).cells 24 .ex)).get τ.next = some (.cells (hv (List.replicate 32 0)) 24 .ex) := by rw [St.get_new]; exact if_pos rfl
    have n3 := st24 n2 (by rw [hv_len]; simp) hx32
    (first | (refine sA rfl rfl ?_; simp only [go_sem, List.getElem?_toArray, Int.ofNat_eq_natCast, reduceIte, Nat.reduceEqDiff, Nat.reduceAdd, List.getElem?_cons_zero, List.getElem?_cons_succ, Bool.not_true, Bool.not_false, storeC, size_24, n3]) | (refine sAg rfl rfl ?_ ?_; (solve | simp only [go_sem, List.getElem?_toArray, Int.ofNat_eq_natCast, reduceIte, Nat.reduceEqDiff, Nat.reduceAdd, List.getElem?_cons_zero, List.getElem?_cons_succ, Bool.not_true, Bool.not_false, storeC, size_24, n3]); simp only [go_sem, List.getElem?_toArray, Int.ofNat_eq_natCast, reduceIte, Nat.reduceEqDiff, Nat.reduceAdd, List.getElem?_cons_zero, List.getElem?_cons_succ, Bool.not_true, Bool.not_false, storeC, size_24, n3]))
    have n4 : Grow τ ((τ.new (.cells (V.ag (hv (List.replicate 32 0))).cells 24 .ex)).put τ.next (.cells (hv l[i]) 24 .ex)) := n1.put (Nat.le_refl _)
    have n5 : ((τ.new (.cells (V.ag (hv (List.replicate 32 0))).cells 24 .ex)).put τ.next (.cells (hv l[i]) 24 .ex)).get τ.next = some (.cells (hv l[i]) 24 .ex) := by rw [St.get_put, if_pos rfl]
    have n6 : ((τ.new (.cells (V.ag (hv (List.replicate 32 0))).cells 24 .ex)).put τ.next (.cells (hv l[i]) 24 .ex)).next = τ.next + 1 := rfl
    generalize (τ.new (.cells (V.ag (hv (List.replicate 32 0))).cells 24 .ex)).put τ.next (.cells (hv l[i]) 24 .ex) = σ4 at n4 n5 n6
    have L4 : Led σ4 g m _ _ := kL.grow (n4.get _ (by omega)) (n4.get _ (by omega))
    have c5 := fun (k : List V → Option V) => cellsAt_go (k := k) n5
    have r5 : ∀ (f : List V → Option V), rangeK (hv l[i]) 0 32 f = f (hv l[i]) := fun f => by rw [rangeK_go (by rw [hv_len, hx32]; omega), List.drop_zero, List.take_of_length_le (by rw [hv_len, hx32]; omega)]
    (repeat (first | refine opsTo_nil ?_ | (refine sV rfl rfl ?_; simp only [go_sem, List.getElem?_toArray, Int.ofNat_eq_natCast, reduceIte, Nat.reduceEqDiff, Nat.reduceAdd, List.getElem?_cons_zero, List.getElem?_cons_succ, Bool.not_true, Bool.not_false]) | (refine sR rfl rfl ?_; simp only [go_sem, List.getElem?_toArray, Int.ofNat_eq_natCast, reduceIte, Nat.reduceEqDiff, Nat.reduceAdd, List.getElem?_cons_zero, List.getElem?_cons_succ, Bool.not_true, Bool.not_false]) | (refine sM rfl rfl ?_; simp only [go_sem, List.getElem?_toArray, Int.ofNat_eq_natCast, reduceIte, Nat.reduceEqDiff, Nat.reduceAdd, List.getElem?_cons_zero, List.getElem?_cons_succ, Bool.not_true, Bool.not_false]) | (refine sVg rfl rfl ?_ ?_; (solve | simp only [go_sem, List.getElem?_toArray, Int.ofNat_eq_natCast, reduceIte, Nat.reduceEqDiff, Nat.reduceAdd, List.getElem?_cons_zero, List.getElem?_cons_succ, Bool.not_true, Bool.not_false]); simp only [go_sem, List.getElem?_toArray, Int.ofNat_eq_natCast, reduceIte, Nat.reduceEqDiff, Nat.reduceAdd, List.getElem?_cons_zero, List.getElem?_cons_succ, Bool.not_true, Bool.not_false]) | (refine sRg rfl rfl ?_ ?_; (solve | simp only [go_sem, List.getElem?_toArray, Int.ofNat_eq_natCast, reduceIte, Nat.reduceEqDiff, Nat.reduceAdd, List.getElem?_cons_zero, List.getElem?_cons_succ, Bool.not_true, Bool.not_false]); simp only [go_sem, List.getElem?_toArray, Int.ofNat_eq_natCast, reduceIte, Nat.reduceEqDiff, Nat.reduceAdd, List.getElem?_cons_zero, List.getElem?_cons_succ, Bool.not_true, Bool.not_false]) | (refine sS rfl rfl ?_ ?_; (solve | simp only [go_sem, List.getElem?_toArray, Int.ofNat_eq_natCast, reduceIte, Nat.reduceEqDiff, Nat.reduceAdd, List.getElem?_cons_zero, List.getElem?_cons_succ, Bool.not_true, Bool.not_false]); simp only [go_sem, List.getElem?_toArray, Int.ofNat_eq_natCast, reduceIte, Nat.reduceEqDiff, Nat.reduceAdd, List.getElem?_cons_zero, List.getElem?_cons_succ, Bool.not_true, Bool.not_false])))
    (try simp only [go_sem, List.getElem?_toArray, Int.ofNat_eq_natCast, reduceIte, Nat.reduceEqDiff, Nat.reduceAdd, List.getElem?_cons_zero, List.getElem?_cons_succ, Bool.not_true, Bool.not_false])
    ((repeat refine codeTo_seq ?_); refine codeTo_region (by kernel_rfl) ?_)
    (repeat (first | refine opsTo_nil ?_ | (refine sV rfl rfl ?_; simp only [go_sem, List.getElem?_toArray, Int.ofNat_eq_natCast, reduceIte, Nat.reduceEqDiff, Nat.reduceAdd, List.getElem?_cons_zero, List.getElem?_cons_succ, Bool.not_true, Bool.not_false, t5, c5, r5, size_24]) | (refine sR rfl rfl ?_; simp only [go_sem, List.getElem?_toArray, Int.ofNat_eq_natCast, reduceIte, Nat.reduceEqDiff, Nat.reduceAdd, List.getElem?_cons_zero, List.getElem?_cons_succ, Bool.not_true, Bool.not_false, t5, c5, r5, size_24]) | (refine sM rfl rfl ?_; simp only [go_sem, List.getElem?_toArray, Int.ofNat_eq_natCast, reduceIte, Nat.reduceEqDiff, Nat.reduceAdd, List.getElem?_cons_zero, List.getElem?_cons_succ, Bool.not_true, Bool.not_false, t5, c5, r5, size_24]) | (refine sVg rfl rfl ?_ ?_; (solve | simp only [go_sem, List.getElem?_toArray, Int.ofNat_eq_natCast, reduceIte, Nat.reduceEqDiff, Nat.reduceAdd, List.getElem?_cons_zero, List.getElem?_cons_succ, Bool.not_true, Bool.not_false, t5, c5, r5, size_24]); simp only [go_sem, List.getElem?_toArray, Int.ofNat_eq_natCast, reduceIte, Nat.reduceEqDiff, Nat.reduceAdd, List.getElem?_cons_zero, List.getElem?_cons_succ, Bool.not_true, Bool.not_false, t5, c5, r5, size_24]) | (refine sRg rfl rfl ?_ ?_; (solve | simp only [go_sem, List.getElem?_toArray, Int.ofNat_eq_natCast, reduceIte, Nat.reduceEqDiff, Nat.reduceAdd, List.getElem?_cons_zero, List.getElem?_cons_succ, Bool.not_true, Bool.not_false, t5, c5, r5, size_24]); simp only [go_sem, List.getElem?_toArray, Int.ofNat_eq_natCast, reduceIte, Nat.reduceEqDiff, Nat.reduceAdd, List.getElem?_cons_zero, List.getElem?_cons_succ, Bool.not_true, Bool.not_false, t5, c5, r5, size_24]) | (refine sS rfl rfl ?_ ?_; (solve | simp only [go_sem, List.getElem?_toArray, Int.ofNat_eq_natCast, reduceIte, Nat.reduceEqDiff, Nat.reduceAdd, List.getElem?_cons_zero, List.getElem?_cons_succ, Bool.not_true, Bool.not_false, t5, c5, r5, size_24]); simp only [go_sem, List.getElem?_toArray, Int.ofNat_eq_natCast, reduceIte, Nat.reduceEqDiff, Nat.reduceAdd, List.getElem?_cons_zero, List.getElem?_cons_succ, Bool.not_true, Bool.not_false, t5, c5, r5, size_24])))
    (first | (refine sA rfl rfl ?_; simp only [go_sem, List.getElem?_toArray, Int.ofNat_eq_natCast, reduceIte, Nat.reduceEqDiff, Nat.reduceAdd, List.getElem?_cons_zero, List.getElem?_cons_succ, Bool.not_true, Bool.not_false, t5]) | (refine sAg rfl rfl ?_ ?_; (solve | simp only [go_sem, List.getElem?_toArray, Int.ofNat_eq_natCast, reduceIte, Nat.reduceEqDiff, Nat.reduceAdd, List.getElem?_cons_zero, List.getElem?_cons_succ, Bool.not_true, Bool.not_false, t5]); simp only [go_sem, List.getElem?_toArray, Int.ofNat_eq_natCast, reduceIte, Nat.reduceEqDiff, Nat.reduceAdd, List.getElem?_cons_zero, List.getElem?_cons_succ, Bool.not_true, Bool.not_false, t5]))
    refine CallTo.mono (callTo_fn hT (has_to L4 hL32 (by omega) (by omega) hx32 (by omega))) ?_
    rintro v6 σ6 ⟨rfl, g6, n7⟩
    (repeat (first | refine opsTo_nil ?_ | (refine sV rfl rfl ?_; simp only [go_sem, List.getElem?_toArray, Int.ofNat_eq_natCast, reduceIte, Nat.reduceEqDiff, Nat.reduceAdd, List.getElem?_cons_zero, List.getElem?_cons_succ, Bool.not_true, Bool.not_false]) | (refine sR rfl rfl ?_; simp only [go_sem, List.getElem?_toArray, Int.ofNat_eq_natCast, reduceIte, Nat.reduceEqDiff, Nat.reduceAdd, List.getElem?_cons_zero, List.getElem?_cons_succ, Bool.not_true, Bool.not_false]) | (refine sM rfl rfl ?_; simp only [go_sem, List.getElem?_toArray, Int.ofNat_eq_natCast, reduceIte, Nat.reduceEqDiff, Nat.reduceAdd, List.getElem?_cons_zero, List.getElem?_cons_succ, Bool.not_true, Bool.not_false]) | (refine sVg rfl rfl ?_ ?_; (solve | simp only [go_sem, List.getElem?_toArray, Int.ofNat_eq_natCast, reduceIte, Nat.reduceEqDiff, Nat.reduceAdd, List.getElem?_cons_zero, List.getElem?_cons_succ, Bool.not_true, Bool.not_false]); simp only [go_sem, List.getElem?_toArray, Int.ofNat_eq_natCast, reduceIte, Nat.reduceEqDiff, Nat.reduceAdd, List.getElem?_cons_zero, List.getElem?_cons_succ, Bool.not_true, Bool.not_false]) | (refine sRg rfl rfl ?_ ?_; (solve | simp only [go_sem, List.getElem?_toArray, Int.ofNat_eq_natCast, reduceIte, Nat.reduceEqDiff, Nat.reduceAdd, List.getElem?_cons_zero, List.getElem?_cons_succ, Bool.not_true, Bool.not_false]); simp only [go_sem, List.getElem?_toArray, Int.ofNat_eq_natCast, reduceIte, Nat.reduceEqDiff, Nat.reduceAdd, List.getElem?_cons_zero, List.getElem?_cons_succ, Bool.not_true, Bool.not_false]) | (refine sS rfl rfl ?_ ?_; (solve | simp only [go_sem, List.getElem?_toArray, Int.ofNat_eq_natCast, reduceIte, Nat.reduceEqDiff, Nat.reduceAdd, List.getElem?_cons_zero, List.getElem?_cons_succ, Bool.not_true, Bool.not_false]); simp only [go_sem, List.getElem?_toArray, Int.ofNat_eq_natCast, reduceIte, Nat.reduceEqDiff, Nat.reduceAdd, List.getElem?_cons_zero, List.getElem?_cons_succ, Bool.not_true, Bool.not_false])))
    (try simp only [go_sem, List.getElem?_toArray, Int.ofNat_eq_natCast, reduceIte, Nat.reduceEqDiff, Nat.reduceAdd, List.getElem?_cons_zero, List.getElem?_cons_succ, Bool.not_true, Bool.not_false])
    have L6 : Led σ6 g m _ _ := L4.grow (g6.get _ (by omega)) (g6.get _ (by omega))
    have hF6 : ∀ id, id < σ.next → id ≠ g → id ≠ m → σ6.get id = σ.get id := fun id h1 h2 h3 => by rw [g6.get _ (by omega), n4.get _ (by omega), kF id h1 h2 h3]
    have G6 : Grow σ₀ σ6 := (kG.trans n4).trans g6
    have w1 := incr_i64 (a := i) (by omega)
    by_cases hin : l[i] ∈ noteL keys (l.take i)
    · rw [if_pos hin] at hstep
      rw [decide_eq_true hin]
      ((repeat refine codeTo_seq ?_); refine codeTo_cond (t := true) ?_ (fun _ => ?_) (fun h => by cases h)); (solve | simp only [go_sem, List.getElem?_toArray, Int.ofNat_eq_natCast, reduceIte, Nat.reduceEqDiff, Nat.reduceAdd, List.getElem?_cons_zero, List.getElem?_cons_succ, Bool.not_true, Bool.not_false])
      have c6 := fun (k : List V → Option V) => cellsAt_go (k := k) L6.g
      have hw := incr_i64 (a := tw + (i - ((noteL keys (l.take i)).length - keys.length))) (by omega)
      have hst := fun (x : Int) => stTw (n := x) L6.g
      ((repeat refine codeTo_seq ?_); refine codeTo_region (by kernel_rfl) ?_)
      (repeat (first | refine opsTo_nil ?_ | (refine sV rfl rfl ?_; simp only [go_sem, List.getElem?_toArray, Int.ofNat_eq_natCast, reduceIte, Nat.reduceEqDiff, Nat.reduceAdd, List.getElem?_cons_zero, List.getElem?_cons_succ, Bool.not_true, Bool.not_false, t0, nilOk, fieldAddrC, und_58, size_3, c6, hw]) | (refine sR rfl rfl ?_; simp only [go_sem, List.getElem?_toArray, Int.ofNat_eq_natCast, reduceIte, Nat.reduceEqDiff, Nat.reduceAdd, List.getElem?_cons_zero, List.getElem?_cons_succ, Bool.not_true, Bool.not_false, t0, nilOk, fieldAddrC, und_58, size_3, c6, hw]) | (refine sM rfl rfl ?_; simp only [go_sem, List.getElem?_toArray, Int.ofNat_eq_natCast, reduceIte, Nat.reduceEqDiff, Nat.reduceAdd, List.getElem?_cons_zero, List.getElem?_cons_succ, Bool.not_true, Bool.not_false, t0, nilOk, fieldAddrC, und_58, size_3, c6, hw]) | (refine sVg rfl rfl ?_ ?_; (solve | simp only [go_sem, List.getElem?_toArray, Int.ofNat_eq_natCast, reduceIte, Nat.reduceEqDiff, Nat.reduceAdd, List.getElem?_cons_zero, List.getElem?_cons_succ, Bool.not_true, Bool.not_false, t0, nilOk, fieldAddrC, und_58, size_3, c6, hw]); simp only [go_sem, List.getElem?_toArray, Int.ofNat_eq_natCast, reduceIte, Nat.reduceEqDiff, Nat.reduceAdd, List.getElem?_cons_zero, List.getElem?_cons_succ, Bool.not_true, Bool.not_false, t0, nilOk, fieldAddrC, und_58, size_3, c6, hw]) | (refine sRg rfl rfl ?_ ?_; (solve | simp only [go_sem, List.getElem?_toArray, Int.ofNat_eq_natCast, reduceIte, Nat.reduceEqDiff, Nat.reduceAdd, List.getElem?_cons_zero, List.getElem?_cons_succ, Bool.not_true, Bool.not_false, t0, nilOk, fieldAddrC, und_58, size_3, c6, hw]); simp only [go_sem, List.getElem?_toArray, Int.ofNat_eq_natCast, reduceIte, Nat.reduceEqDiff, Nat.reduceAdd, List.getElem?_cons_zero, List.getElem?_cons_succ, Bool.not_true, Bool.not_false, t0, nilOk, fieldAddrC, und_58, size_3, c6, hw]) | (refine sS rfl rfl ?_ ?_; (solve | simp only [go_sem, List.getElem?_toArray, Int.ofNat_eq_natCast, reduceIte, Nat.reduceEqDiff, Nat.reduceAdd, List.getElem?_cons_zero, List.getElem?_cons_succ, Bool.not_true, Bool.not_false, t0, nilOk, fieldAddrC, und_58, size_3, c6, hw]); simp only [go_sem, List.getElem?_toArray, Int.ofNat_eq_natCast, reduceIte, Nat.reduceEqDiff, Nat.reduceAdd, List.getElem?_cons_zero, List.getElem?_cons_succ, Bool.not_true, Bool.not_false, t0, nilOk, fieldAddrC, und_58, size_3, c6, hw])))
      (first | (refine sA rfl rfl ?_; simp only [go_sem, List.getElem?_toArray, Int.ofNat_eq_natCast, reduceIte, Nat.reduceEqDiff, Nat.reduceAdd, List.getElem?_cons_zero, List.getElem?_cons_succ, Bool.not_true, Bool.not_false, storeC, size_3, hst]) | (refine sAg rfl rfl ?_ ?_; (solve | simp only [go_sem, List.getElem?_toArray, Int.ofNat_eq_natCast, reduceIte, Nat.reduceEqDiff, Nat.reduceAdd, List.getElem?_cons_zero, List.getElem?_cons_succ, Bool.not_true, Bool.not_false, storeC, size_3, hst]); simp only [go_sem, List.getElem?_toArray, Int.ofNat_eq_natCast, reduceIte, Nat.reduceEqDiff, Nat.reduceAdd, List.getElem?_cons_zero, List.getElem?_cons_succ, Bool.not_true, Bool.not_false, storeC, size_3, hst]))
      (repeat (first | refine opsTo_nil ?_ | (refine sV rfl rfl ?_; simp only [go_sem, List.getElem?_toArray, Int.ofNat_eq_natCast, reduceIte, Nat.reduceEqDiff, Nat.reduceAdd, List.getElem?_cons_zero, List.getElem?_cons_succ, Bool.not_true, Bool.not_false]) | (refine sR rfl rfl ?_; simp only [go_sem, List.getElem?_toArray, Int.ofNat_eq_natCast, reduceIte, Nat.reduceEqDiff, Nat.reduceAdd, List.getElem?_cons_zero, List.getElem?_cons_succ, Bool.not_true, Bool.not_false]) | (refine sM rfl rfl ?_; simp only [go_sem, List.getElem?_toArray, Int.ofNat_eq_natCast, reduceIte, Nat.reduceEqDiff, Nat.reduceAdd, List.getElem?_cons_zero, List.getElem?_cons_succ, Bool.not_true, Bool.not_false]) | (refine sVg rfl rfl ?_ ?_; (solve | simp only [go_sem, List.getElem?_toArray, Int.ofNat_eq_natCast, reduceIte, Nat.reduceEqDiff, Nat.reduceAdd, List.getElem?_cons_zero, List.getElem?_cons_succ, Bool.not_true, Bool.not_false]); simp only [go_sem, List.getElem?_toArray, Int.ofNat_eq_natCast, reduceIte, Nat.reduceEqDiff, Nat.reduceAdd, List.getElem?_cons_zero, List.getElem?_cons_succ, Bool.not_true, Bool.not_false]) | (refine sRg rfl rfl ?_ ?_; (solve | simp only [go_sem, List.getElem?_toArray, Int.ofNat_eq_natCast, reduceIte, Nat.reduceEqDiff, Nat.reduceAdd, List.getElem?_cons_zero, List.getElem?_cons_succ, Bool.not_true, Bool.not_false]); simp only [go_sem, List.getElem?_toArray, Int.ofNat_eq_natCast, reduceIte, Nat.reduceEqDiff, Nat.reduceAdd, List.getElem?_cons_zero, List.getElem?_cons_succ, Bool.not_true, Bool.not_false]) | (refine sS rfl rfl ?_ ?_; (solve | simp only [go_sem, List.getElem?_toArray, Int.ofNat_eq_natCast, reduceIte, Nat.reduceEqDiff, Nat.reduceAdd, List.getElem?_cons_zero, List.getElem?_cons_succ, Bool.not_true, Bool.not_false]); simp only [go_sem, List.getElem?_toArray, Int.ofNat_eq_natCast, reduceIte, Nat.reduceEqDiff, Nat.reduceAdd, List.getElem?_cons_zero, List.getElem?_cons_succ, Bool.not_true, Bool.not_false])))
      (try simp only [go_sem, List.getElem?_toArray, Int.ofNat_eq_natCast, reduceIte, Nat.reduceEqDiff, Nat.reduceAdd, List.getElem?_cons_zero, List.getElem?_cons_succ, Bool.not_true, Bool.not_false])
      ((repeat refine codeTo_seq ?_); refine codeTo_exit ?_)
      (try simp only [go_sem, List.getElem?_toArray, Int.ofNat_eq_natCast, reduceIte, Nat.reduceEqDiff, Nat.reduceAdd, List.getElem?_cons_zero, List.getElem?_cons_succ, Bool.not_true, Bool.not_false])
      ((repeat refine codeTo_seq ?_); refine codeTo_region (by kernel_rfl) ?_)
      (repeat (first | refine opsTo_nil ?_ | (refine sV rfl rfl ?_; simp only [go_sem, List.getElem?_toArray, Int.ofNat_eq_natCast, reduceIte, Nat.reduceEqDiff, Nat.reduceAdd, List.getElem?_cons_zero, List.getElem?_cons_succ, Bool.not_true, Bool.not_false, t14, w1]) | (refine sR rfl rfl ?_; simp only [go_sem, List.getElem?_toArray, Int.ofNat_eq_natCast, reduceIte, Nat.reduceEqDiff, Nat.reduceAdd, List.getElem?_cons_zero, List.getElem?_cons_succ, Bool.not_true, Bool.not_false, t14, w1]) | (refine sM rfl rfl ?_; simp only [go_sem, List.getElem?_toArray, Int.ofNat_eq_natCast, reduceIte, Nat.reduceEqDiff, Nat.reduceAdd, List.getElem?_cons_zero, List.getElem?_cons_succ, Bool.not_true, Bool.not_false, t14, w1]) | (refine sVg rfl rfl ?_ ?_; (solve | simp only [go_sem, List.getElem?_toArray, Int.ofNat_eq_natCast, reduceIte, Nat.reduceEqDiff, Nat.reduceAdd, List.getElem?_cons_zero, List.getElem?_cons_succ, Bool.not_true, Bool.not_false, t14, w1]); simp only [go_sem, List.getElem?_toArray, Int.ofNat_eq_natCast, reduceIte, Nat.reduceEqDiff, Nat.reduceAdd, List.getElem?_cons_zero, List.getElem?_cons_succ, Bool.not_true, Bool.not_false, t14, w1]) | (refine sRg rfl rfl ?_ ?_; (solve | simp only [go_sem, List.getElem?_toArray, Int.ofNat_eq_natCast, reduceIte, Nat.reduceEqDiff, Nat.reduceAdd, List.getElem?_cons_zero, List.getElem?_cons_succ, Bool.not_true, Bool.not_false, t14, w1]); simp only [go_sem, List.getElem?_toArray, Int.ofNat_eq_natCast, reduceIte, Nat.reduceEqDiff, Nat.reduceAdd, List.getElem?_cons_zero, List.getElem?_cons_succ, Bool.not_true, Bool.not_false, t14, w1]) | (refine sS rfl rfl ?_ ?_; (solve | simp only [go_sem, List.getElem?_toArray, Int.ofNat_eq_natCast, reduceIte, Nat.reduceEqDiff, Nat.reduceAdd, List.getElem?_cons_zero, List.getElem?_cons_succ, Bool.not_true, Bool.not_false, t14, w1]); simp only [go_sem, List.getElem?_toArray, Int.ofNat_eq_natCast, reduceIte, Nat.reduceEqDiff, Nat.reduceAdd, List.getElem?_cons_zero, List.getElem?_cons_succ, Bool.not_true, Bool.not_false, t14, w1])))
      (try simp only [go_sem, List.getElem?_toArray, Int.ofNat_eq_natCast, reduceIte, Nat.reduceEqDiff, Nat.reduceAdd, List.getElem?_cons_zero, List.getElem?_cons_succ, Bool.not_true, Bool.not_false])
      refine ih (i + 1) (by omega) _ _ ⟨by omega, ⟨?_, ?_⟩, G6.put h0, by rw [St.put_next]; omega, by rw [St.put_next]; omega, ?_, by simp only [go_sem, List.getElem?_toArray, Int.ofNat_eq_natCast, reduceIte, Nat.reduceEqDiff, Nat.reduceAdd, List.getElem?_cons_zero, List.getElem?_cons_succ, Bool.not_true, Bool.not_false, t0], by simp only [go_sem, List.getElem?_toArray, Int.ofNat_eq_natCast, reduceIte, Nat.reduceEqDiff, Nat.reduceAdd, List.getElem?_cons_zero, List.getElem?_cons_succ, Bool.not_true, Bool.not_false, t4, hstep], by simp only [go_sem, List.getElem?_toArray, Int.ofNat_eq_natCast, reduceIte, Nat.reduceEqDiff, Nat.reduceAdd, List.getElem?_cons_zero, List.getElem?_cons_succ, Bool.not_true, Bool.not_false, t5], by simp only [go_sem, List.getElem?_toArray, Int.ofNat_eq_natCast, reduceIte, Nat.reduceEqDiff, Nat.reduceAdd, List.getElem?_cons_zero, List.getElem?_cons_succ, Bool.not_true, Bool.not_false, t12], by simp only [go_sem, List.getElem?_toArray, Int.ofNat_eq_natCast, reduceIte, Nat.reduceEqDiff, Nat.reduceAdd, List.getElem?_cons_zero, List.getElem?_cons_succ, Bool.not_true, Bool.not_false, t13], by simp only [go_sem, List.getElem?_toArray, Int.ofNat_eq_natCast, reduceIte, Nat.reduceEqDiff, Nat.reduceAdd, List.getElem?_cons_zero, List.getElem?_cons_succ, Bool.not_true, Bool.not_false]⟩
      · rw [St.get_put, if_pos rfl]
        congr 5
        rw [hstep]
        omega
      · obtain ⟨es, ck, e1, e2⟩ := L6.m
        exact ⟨es, ck, by rw [St.get_put, if_neg (fun e => hgm e.symm)]; exact e1, by rw [hstep]; exact e2⟩
      · intro id i1 i2 i3
        rw [St.get_put, if_neg i2]
        exact hF6 id i1 i2 i3
    · rw [if_neg hin] at hstep
      rw [decide_eq_false hin]
      ((repeat refine codeTo_seq ?_); refine codeTo_cond (t := false) ?_ (fun h => by cases h) (fun _ => ?_)); (solve | simp only [go_sem, List.getElem?_toArray, Int.ofNat_eq_natCast, reduceIte, Nat.reduceEqDiff, Nat.reduceAdd, List.getElem?_cons_zero, List.getElem?_cons_succ, Bool.not_true, Bool.not_false])
      ((repeat refine codeTo_seq ?_); refine codeTo_skip ?_)
      (try simp only [go_sem, List.getElem?_toArray, Int.ofNat_eq_natCast, reduceIte, Nat.reduceEqDiff, Nat.reduceAdd, List.getElem?_cons_zero, List.getElem?_cons_succ, Bool.not_true, Bool.not_false])
      obtain ⟨b, u1, u2⟩ := upd_led L6 hgm hL32 hx32 hin
      have c6 := fun (k : List V → Option V) => cellsAt_go (k := k) L6.g
      have n8 : σ6.get τ.next = some (.cells (hv l[i]) 24 .ex) := by rw [g6.get _ (by omega)]; exact n5
      have c8 := fun (k : List V → Option V) => cellsAt_go (k := k) n8
      ((repeat refine codeTo_seq ?_); refine codeTo_draw0 [⟨0, .value, [], 0⟩, ⟨1, .value, [], 0⟩, ⟨2, .value, [], 0⟩, ⟨3, .reads, [], 0⟩, ⟨4, .reads, [], 0⟩, ⟨5, .acts, [], 0⟩] (by kernel_rfl) (by kernel_rfl) ?_ ?_)
      · omega
      (repeat (first | refine drawTo_nil ?_ | (refine dV rfl rfl rfl ?_; simp only [go_sem, List.getElem?_toArray, Int.ofNat_eq_natCast, reduceIte, Nat.reduceEqDiff, Nat.reduceAdd, List.getElem?_cons_zero, List.getElem?_cons_succ, Bool.not_true, Bool.not_false, t0, nilOk, fieldAddrC, und_58, size_56, c6, c8, r5, size_24]) | (refine dR rfl rfl rfl ?_; simp only [go_sem, List.getElem?_toArray, Int.ofNat_eq_natCast, reduceIte, Nat.reduceEqDiff, Nat.reduceAdd, List.getElem?_cons_zero, List.getElem?_cons_succ, Bool.not_true, Bool.not_false, t0, nilOk, fieldAddrC, und_58, size_56, c6, c8, r5, size_24]) | (refine dVg rfl rfl rfl ?_ ?_; (solve | simp only [go_sem, List.getElem?_toArray, Int.ofNat_eq_natCast, reduceIte, Nat.reduceEqDiff, Nat.reduceAdd, List.getElem?_cons_zero, List.getElem?_cons_succ, Bool.not_true, Bool.not_false, t0, nilOk, fieldAddrC, und_58, size_56, c6, c8, r5, size_24]); simp only [go_sem, List.getElem?_toArray, Int.ofNat_eq_natCast, reduceIte, Nat.reduceEqDiff, Nat.reduceAdd, List.getElem?_cons_zero, List.getElem?_cons_succ, Bool.not_true, Bool.not_false, t0, nilOk, fieldAddrC, und_58, size_56, c6, c8, r5, size_24]) | (refine dRg rfl rfl rfl ?_ ?_; (solve | simp only [go_sem, List.getElem?_toArray, Int.ofNat_eq_natCast, reduceIte, Nat.reduceEqDiff, Nat.reduceAdd, List.getElem?_cons_zero, List.getElem?_cons_succ, Bool.not_true, Bool.not_false, t0, nilOk, fieldAddrC, und_58, size_56, c6, c8, r5, size_24]); simp only [go_sem, List.getElem?_toArray, Int.ofNat_eq_natCast, reduceIte, Nat.reduceEqDiff, Nat.reduceAdd, List.getElem?_cons_zero, List.getElem?_cons_succ, Bool.not_true, Bool.not_false, t0, nilOk, fieldAddrC, und_58, size_56, c6, c8, r5, size_24]) | (refine dS rfl rfl rfl ?_ (by decide) ?_; (solve | simp only [go_sem, List.getElem?_toArray, Int.ofNat_eq_natCast, reduceIte, Nat.reduceEqDiff, Nat.reduceAdd, List.getElem?_cons_zero, List.getElem?_cons_succ, Bool.not_true, Bool.not_false, t0, nilOk, fieldAddrC, und_58, size_56, c6, c8, r5, size_24]); simp only [go_sem, List.getElem?_toArray, Int.ofNat_eq_natCast, reduceIte, Nat.reduceEqDiff, Nat.reduceAdd, List.getElem?_cons_zero, List.getElem?_cons_succ, Bool.not_true, Bool.not_false, t0, nilOk, fieldAddrC, und_58, size_56, c6, c8, r5, size_24])))
      (first | (refine dA rfl rfl rfl ?_; simp only [go_sem, List.getElem?_toArray, Int.ofNat_eq_natCast, reduceIte, Nat.reduceEqDiff, Nat.reduceAdd, List.getElem?_cons_zero, List.getElem?_cons_succ, Bool.not_true, Bool.not_false, mapUpdC, u1]) | (refine dAg rfl rfl rfl ?_ ?_; (solve | simp only [go_sem, List.getElem?_toArray, Int.ofNat_eq_natCast, reduceIte, Nat.reduceEqDiff, Nat.reduceAdd, List.getElem?_cons_zero, List.getElem?_cons_succ, Bool.not_true, Bool.not_false, mapUpdC, u1]); simp only [go_sem, List.getElem?_toArray, Int.ofNat_eq_natCast, reduceIte, Nat.reduceEqDiff, Nat.reduceAdd, List.getElem?_cons_zero, List.getElem?_cons_succ, Bool.not_true, Bool.not_false, mapUpdC, u1]))
      refine ⟨recheck_nil, by omega, ?_⟩
      (repeat (first | refine drawTo_nil ?_ | (refine dV rfl rfl rfl ?_; simp only [go_sem, List.getElem?_toArray, Int.ofNat_eq_natCast, reduceIte, Nat.reduceEqDiff, Nat.reduceAdd, List.getElem?_cons_zero, List.getElem?_cons_succ, Bool.not_true, Bool.not_false]) | (refine dR rfl rfl rfl ?_; simp only [go_sem, List.getElem?_toArray, Int.ofNat_eq_natCast, reduceIte, Nat.reduceEqDiff, Nat.reduceAdd, List.getElem?_cons_zero, List.getElem?_cons_succ, Bool.not_true, Bool.not_false]) | (refine dVg rfl rfl rfl ?_ ?_; (solve | simp only [go_sem, List.getElem?_toArray, Int.ofNat_eq_natCast, reduceIte, Nat.reduceEqDiff, Nat.reduceAdd, List.getElem?_cons_zero, List.getElem?_cons_succ, Bool.not_true, Bool.not_false]); simp only [go_sem, List.getElem?_toArray, Int.ofNat_eq_natCast, reduceIte, Nat.reduceEqDiff, Nat.reduceAdd, List.getElem?_cons_zero, List.getElem?_cons_succ, Bool.not_true, Bool.not_false]) | (refine dRg rfl rfl rfl ?_ ?_; (solve | simp only [go_sem, List.getElem?_toArray, Int.ofNat_eq_natCast, reduceIte, Nat.reduceEqDiff, Nat.reduceAdd, List.getElem?_cons_zero, List.getElem?_cons_succ, Bool.not_true, Bool.not_false]); simp only [go_sem, List.getElem?_toArray, Int.ofNat_eq_natCast, reduceIte, Nat.reduceEqDiff, Nat.reduceAdd, List.getElem?_cons_zero, List.getElem?_cons_succ, Bool.not_true, Bool.not_false]) | (refine dS rfl rfl rfl ?_ (by decide) ?_; (solve | simp only [go_sem, List.getElem?_toArray, Int.ofNat_eq_natCast, reduceIte, Nat.reduceEqDiff, Nat.reduceAdd, List.getElem?_cons_zero, List.getElem?_cons_succ, Bool.not_true, Bool.not_false]); simp only [go_sem, List.getElem?_toArray, Int.ofNat_eq_natCast, reduceIte, Nat.reduceEqDiff, Nat.reduceAdd, List.getElem?_cons_zero, List.getElem?_cons_succ, Bool.not_true, Bool.not_false])))
      (try simp only [go_sem, List.getElem?_toArray, Int.ofNat_eq_natCast, reduceIte, Nat.reduceEqDiff, Nat.reduceAdd, List.getElem?_cons_zero, List.getElem?_cons_succ, Bool.not_true, Bool.not_false])
      have w4 := incr_i64 (a := (noteL keys (l.take i)).length - keys.length) (by omega)
      ((repeat refine codeTo_seq ?_); refine codeTo_region (by kernel_rfl) ?_)
      (repeat (first | refine opsTo_nil ?_ | (refine sV rfl rfl ?_; simp only [go_sem, List.getElem?_toArray, Int.ofNat_eq_natCast, reduceIte, Nat.reduceEqDiff, Nat.reduceAdd, List.getElem?_cons_zero, List.getElem?_cons_succ, Bool.not_true, Bool.not_false, t4, w4]) | (refine sR rfl rfl ?_; simp only [go_sem, List.getElem?_toArray, Int.ofNat_eq_natCast, reduceIte, Nat.reduceEqDiff, Nat.reduceAdd, List.getElem?_cons_zero, List.getElem?_cons_succ, Bool.not_true, Bool.not_false, t4, w4]) | (refine sM rfl rfl ?_; simp only [go_sem, List.getElem?_toArray, Int.ofNat_eq_natCast, reduceIte, Nat.reduceEqDiff, Nat.reduceAdd, List.getElem?_cons_zero, List.getElem?_cons_succ, Bool.not_true, Bool.not_false, t4, w4]) | (refine sVg rfl rfl ?_ ?_; (solve | simp only [go_sem, List.getElem?_toArray, Int.ofNat_eq_natCast, reduceIte, Nat.reduceEqDiff, Nat.reduceAdd, List.getElem?_cons_zero, List.getElem?_cons_succ, Bool.not_true, Bool.not_false, t4, w4]); simp only [go_sem, List.getElem?_toArray, Int.ofNat_eq_natCast, reduceIte, Nat.reduceEqDiff, Nat.reduceAdd, List.getElem?_cons_zero, List.getElem?_cons_succ, Bool.not_true, Bool.not_false, t4, w4]) | (refine sRg rfl rfl ?_ ?_; (solve | simp only [go_sem, List.getElem?_toArray, Int.ofNat_eq_natCast, reduceIte, Nat.reduceEqDiff, Nat.reduceAdd, List.getElem?_cons_zero, List.getElem?_cons_succ, Bool.not_true, Bool.not_false, t4, w4]); simp only [go_sem, List.getElem?_toArray, Int.ofNat_eq_natCast, reduceIte, Nat.reduceEqDiff, Nat.reduceAdd, List.getElem?_cons_zero, List.getElem?_cons_succ, Bool.not_true, Bool.not_false, t4, w4]) | (refine sS rfl rfl ?_ ?_; (solve | simp only [go_sem, List.getElem?_toArray, Int.ofNat_eq_natCast, reduceIte, Nat.reduceEqDiff, Nat.reduceAdd, List.getElem?_cons_zero, List.getElem?_cons_succ, Bool.not_true, Bool.not_false, t4, w4]); simp only [go_sem, List.getElem?_toArray, Int.ofNat_eq_natCast, reduceIte, Nat.reduceEqDiff, Nat.reduceAdd, List.getElem?_cons_zero, List.getElem?_cons_succ, Bool.not_true, Bool.not_false, t4, w4])))
      (try simp only [go_sem, List.getElem?_toArray, Int.ofNat_eq_natCast, reduceIte, Nat.reduceEqDiff, Nat.reduceAdd, List.getElem?_cons_zero, List.getElem?_cons_succ, Bool.not_true, Bool.not_false])
      ((repeat refine codeTo_seq ?_); refine codeTo_region (by kernel_rfl) ?_)
      (repeat (first | refine opsTo_nil ?_ | (refine sV rfl rfl ?_; simp only [go_sem, List.getElem?_toArray, Int.ofNat_eq_natCast, reduceIte, Nat.reduceEqDiff, Nat.reduceAdd, List.getElem?_cons_zero, List.getElem?_cons_succ, Bool.not_true, Bool.not_false, t14, w1]) | (refine sR rfl rfl ?_; simp only [go_sem, List.getElem?_toArray, Int.ofNat_eq_natCast, reduceIte, Nat.reduceEqDiff, Nat.reduceAdd, List.getElem?_cons_zero, List.getElem?_cons_succ, Bool.not_true, Bool.not_false, t14, w1]) | (refine sM rfl rfl ?_; simp only [go_sem, List.getElem?_toArray, Int.ofNat_eq_natCast, reduceIte, Nat.reduceEqDiff, Nat.reduceAdd, List.getElem?_cons_zero, List.getElem?_cons_succ, Bool.not_true, Bool.not_false, t14, w1]) | (refine sVg rfl rfl ?_ ?_; (solve | simp only [go_sem, List.getElem?_toArray, Int.ofNat_eq_natCast, reduceIte, Nat.reduceEqDiff, Nat.reduceAdd, List.getElem?_cons_zero, List.getElem?_cons_succ, Bool.not_true, Bool.not_false, t14, w1]); simp only [go_sem, List.getElem?_toArray, Int.ofNat_eq_natCast, reduceIte, Nat.reduceEqDiff, Nat.reduceAdd, List.getElem?_cons_zero, List.getElem?_cons_succ, Bool.not_true, Bool.not_false, t14, w1]) | (refine sRg rfl rfl ?_ ?_; (solve | simp only [go_sem, List.getElem?_toArray, Int.ofNat_eq_natCast, reduceIte, Nat.reduceEqDiff, Nat.reduceAdd, List.getElem?_cons_zero, List.getElem?_cons_succ, Bool.not_true, Bool.not_false, t14, w1]); simp only [go_sem, List.getElem?_toArray, Int.ofNat_eq_natCast, reduceIte, Nat.reduceEqDiff, Nat.reduceAdd, List.getElem?_cons_zero, List.getElem?_cons_succ, Bool.not_true, Bool.not_false, t14, w1]) | (refine sS rfl rfl ?_ ?_; (solve | simp only [go_sem, List.getElem?_toArray, Int.ofNat_eq_natCast, reduceIte, Nat.reduceEqDiff, Nat.reduceAdd, List.getElem?_cons_zero, List.getElem?_cons_succ, Bool.not_true, Bool.not_false, t14, w1]); simp only [go_sem, List.getElem?_toArray, Int.ofNat_eq_natCast, reduceIte, Nat.reduceEqDiff, Nat.reduceAdd, List.getElem?_cons_zero, List.getElem?_cons_succ, Bool.not_true, Bool.not_false, t14, w1])))
      (try simp only [go_sem, List.getElem?_toArray, Int.ofNat_eq_natCast, reduceIte, Nat.reduceEqDiff, Nat.reduceAdd, List.getElem?_cons_zero, List.getElem?_cons_succ, Bool.not_true, Bool.not_false])
      have hll2 : (noteL keys (l.take (i + 1))).length = (noteL keys (l.take i)).length + 1 := by rw [hstep]; simp
      refine ih (i + 1) (by omega) _ _ ⟨by omega, ?_, G6.put h1, by rw [St.put_next]; omega, by rw [St.put_next]; omega, ?_, by simp only [go_sem, List.getElem?_toArray, Int.ofNat_eq_natCast, reduceIte, Nat.reduceEqDiff, Nat.reduceAdd, List.getElem?_cons_zero, List.getElem?_cons_succ, Bool.not_true, Bool.not_false, t0], ?_, by simp only [go_sem, List.getElem?_toArray, Int.ofNat_eq_natCast, reduceIte, Nat.reduceEqDiff, Nat.reduceAdd, List.getElem?_cons_zero, List.getElem?_cons_succ, Bool.not_true, Bool.not_false, t5], by simp only [go_sem, List.getElem?_toArray, Int.ofNat_eq_natCast, reduceIte, Nat.reduceEqDiff, Nat.reduceAdd, List.getElem?_cons_zero, List.getElem?_cons_succ, Bool.not_true, Bool.not_false, t12], by simp only [go_sem, List.getElem?_toArray, Int.ofNat_eq_natCast, reduceIte, Nat.reduceEqDiff, Nat.reduceAdd, List.getElem?_cons_zero, List.getElem?_cons_succ, Bool.not_true, Bool.not_false, t13], by simp only [go_sem, List.getElem?_toArray, Int.ofNat_eq_natCast, reduceIte, Nat.reduceEqDiff, Nat.reduceAdd, List.getElem?_cons_zero, List.getElem?_cons_succ, Bool.not_true, Bool.not_false]⟩
      · have e : tw + (i + 1 - ((noteL keys (l.take (i + 1))).length - keys.length)) = tw + (i - ((noteL keys (l.take i)).length - keys.length)) := by omega
        rw [e, hstep]
        exact u2
      · intro id i1 i2 i3
        rw [St.get_put, if_neg i3]
        exact hF6 id i1 i2 i3
      · simp only [go_sem, List.getElem?_toArray, Int.ofNat_eq_natCast, reduceIte, Nat.reduceEqDiff, Nat.reduceAdd, List.getElem?_cons_zero, List.getElem?_cons_succ, Bool.not_true, Bool.not_false]
        congr 2
        omega
end Go.Proofs.Tz

/- Plain laws: what is sorted has just the names that are noted. And calls of nil. -/
namespace Go.Proofs.Tz
open Go Go.AM
set_option maxRecDepth 100000

theorem ltH_irrefl (a : List Nat) : ltH a a = false := by
  induction a with
  | nil => rfl
  | cons x xs ih => unfold ltH; rw [if_pos rfl]; exact ih
theorem ltH_trans : ∀ {a b c : List Nat}, a.length = b.length → b.length = c.length → ltH a b = true → ltH b c = true → ltH a c = true := by
  intro a
  induction a with
  | nil => intro b c _ _ h _; unfold ltH at h; cases h
  | cons x xs ih =>
    intro b c h1 h2 h3 h4
    cases b with
    | nil => unfold ltH at h3; cases h3
    | cons y ys => cases c with
      | nil => unfold ltH at h4; cases h4
      | cons z zs =>
        unfold ltH at h3 h4 ⊢
        simp only [List.length_cons, Nat.add_right_cancel_iff] at h1 h2
        split at h3
        · rename_i e; subst e
          split at h4
          · rename_i e; subst e; rw [if_pos rfl]; exact ih h1 h2 h3 h4
          · rename_i e; rw [if_neg e]; exact h4
        · rename_i e
          have h3 : x < y := of_decide_eq_true h3
          split at h4
          · rename_i e2; subst e2; rw [if_neg e]; exact decide_eq_true h3
          · rename_i e2
            have h4 : y < z := of_decide_eq_true h4
            rw [if_neg (by omega)]; exact decide_eq_true (by omega)
theorem ltH_total : ∀ {a b : List Nat}, a.length = b.length → a ≠ b → ltH a b = false → ltH b a = true := by
  intro a
  induction a with
  | nil => intro b h1 h2; cases b with
    | nil => exact absurd rfl h2
    | cons y ys => simp at h1
  | cons x xs ih =>
    intro b h1 h2 h3
    cases b with
    | nil => simp at h1
    | cons y ys =>
      simp only [List.length_cons, Nat.add_right_cancel_iff] at h1
      unfold ltH at h3 ⊢
      by_cases e : x = y
      · subst e
        rw [if_pos rfl] at h3 ⊢
        exact ih h1 (fun e => h2 (by rw [e])) h3
      · rw [if_neg e] at h3
        rw [if_neg (fun e' => e e'.symm)]
        have : ¬ x < y := of_decide_eq_false h3
        exact decide_eq_true (by omega)

theorem insH_nil (x : List Nat) : insH x [] = [x] := by unfold insH; rw [if_pos (.inl rfl)]; rfl
theorem insH_cons (x y : List Nat) (ys : List (List Nat)) : insH x (y :: ys) = if ltH y x = true then y :: insH x ys else if y = x then y :: ys else x :: y :: ys := by
  by_cases h : ltH y x = true
  · rw [if_pos h]
    have hp : posH x (y :: ys) = posH x ys + 1 := by rw [posH, if_pos h]
    unfold insH
    rw [hp]
    simp only [List.length_cons, Nat.add_right_cancel_iff, List.getElem?_cons_succ]
    split <;> simp
  · rw [if_neg h]
    have hp : posH x (y :: ys) = 0 := by rw [posH, if_neg h]
    unfold insH
    rw [hp]
    by_cases e : y = x
    · subst e; rw [if_pos rfl]; simp
    · rw [if_neg e, if_pos (.inr (by simpa using e))]; simp

def SS (l : List (List Nat)) : Prop := l.Pairwise fun a b => ltH a b = true

theorem mem_insH (x z : List Nat) : ∀ (l : List (List Nat)), z ∈ insH x l ↔ z = x ∨ z ∈ l := by
  intro l
  induction l with
  | nil => rw [insH_nil]; simp
  | cons y ys ih =>
    rw [insH_cons]
    split
    · simp only [List.mem_cons, ih]
      constructor
      · rintro (h | h | h) <;> simp [h]
      · rintro (h | h | h) <;> simp [h]
    · split
      · rename_i e; subst e; simp
      · simp

theorem insH_ok {x : List Nat} (hx : x.length = 32) : ∀ {l : List (List Nat)}, Len32 l → SS l → SS (insH x l) ∧ (insH x l).length = if x ∈ l then l.length else l.length + 1 := by
  intro l
  induction l with
  | nil => intro _ _; rw [insH_nil]; exact ⟨List.pairwise_singleton _ _, rfl⟩
  | cons y ys ih =>
    intro hl hs
    have hy : y.length = 32 := hl y List.mem_cons_self
    have hl' : Len32 ys := fun z hz => hl z (List.mem_cons_of_mem _ hz)
    obtain ⟨s1, s2⟩ := List.pairwise_cons.1 hs
    obtain ⟨i1, i2⟩ := ih hl' s2
    rw [insH_cons]
    by_cases h : ltH y x = true
    · rw [if_pos h]
      refine ⟨List.pairwise_cons.2 ⟨fun z hz => ?_, i1⟩, ?_⟩
      · rcases (mem_insH x z ys).1 hz with e | e
        · rw [e]; exact h
        · exact s1 z e
      · have hne : x ≠ y := fun e => by rw [e, ltH_irrefl] at h; cases h
        rw [List.length_cons, i2]
        by_cases hm : x ∈ ys
        · rw [if_pos hm, if_pos (List.mem_cons_of_mem _ hm)]; rfl
        · rw [if_neg hm, if_neg (fun h' => (List.mem_cons.1 h').elim hne hm)]; rfl
    · rw [if_neg h]
      by_cases e : y = x
      · rw [if_pos e]
        exact ⟨hs, by rw [if_pos (by rw [e]; exact List.mem_cons_self)]⟩
      · rw [if_neg e]
        have hlt : ltH x y = true := ltH_total (by omega) e (by simpa using h)
        refine ⟨List.pairwise_cons.2 ⟨fun z hz => ?_, hs⟩, ?_⟩
        · rcases List.mem_cons.1 hz with e' | e'
          · rw [e']; exact hlt
          · exact ltH_trans (by omega) (by rw [hy, hl' z e']) hlt (s1 z e')
        · rw [if_neg]
          · rfl
          · intro hm
            rcases List.mem_cons.1 hm with e' | e'
            · exact e e'.symm
            · exact h (s1 x e')

theorem fold_same : ∀ {l out keys : List (List Nat)}, Len32 l → Len32 out → SS out → out.length = keys.length → (∀ z, z ∈ out ↔ z ∈ keys) →
    (l.foldl (fun out x => insH x out) out).length = (noteL keys l).length ∧ ∀ z, z ∈ l.foldl (fun out x => insH x out) out ↔ z ∈ noteL keys l := by
  intro l
  induction l with
  | nil => intro out keys _ _ _ h1 h2; exact ⟨h1, h2⟩
  | cons x l ih =>
    intro out keys hl ho hs h1 h2
    have hx : x.length = 32 := hl x List.mem_cons_self
    obtain ⟨i1, i2⟩ := insH_ok hx ho hs
    rw [noteL_cons]
    refine ih (fun z hz => hl z (List.mem_cons_of_mem _ hz)) (insH_len32 hx ho) i1 ?_ ?_
    · rw [i2]
      by_cases hm : x ∈ keys
      · rw [if_pos hm, if_pos ((h2 x).2 hm), h1]
      · rw [if_neg hm, if_neg (fun h => hm ((h2 x).1 h)), h1]; simp
    · intro z
      rw [mem_insH, h2]
      by_cases hm : x ∈ keys
      · rw [if_pos hm]
        constructor
        · rintro (e | e)
          · rw [e]; exact hm
          · exact e
        · exact .inr
      · rw [if_neg hm]; simp [or_comm]

theorem sorted_note {l : List (List Nat)} (hl : Len32 l) : (sortedH l).length = (noteL [] l).length ∧ ∀ z, z ∈ sortedH l ↔ z ∈ noteL [] l :=
  fold_same hl (fun _ h => nomatch h) List.Pairwise.nil rfl fun _ => Iff.rfl
theorem noteL_app (k a b : List (List Nat)) : noteL k (a ++ b) = noteL (noteL k a) b := by unfold noteL; rw [List.foldl_append]

/-! ### Calls of nil -/
theorem need_nil (σ : St) : (evT E TA 20).call 11 [.p none, .sl none 0 (.ex 0), .i .i64 1] false σ = some ⟨.tu [.sl none 0 (.ex 0), .i .i64 18], σ⟩ := by kernel_rfl
theorem take_nil (σ : St) : (evT E TA 20).call 13 [.p none, .sl none 0 (.ex 0), .sl none 0 (.ex 0)] false σ = some ⟨.tu [.i .i64 0, .i .i64 18], σ⟩ := by kernel_rfl
theorem rounds_nil (σ : St) : (evT E TA 20).call 14 [.p none, .p none, .sl none 0 (.ex 0), .i .i64 1] false σ = some ⟨.tu [.i .i64 0, .i .i64 0, .i .i64 18], σ⟩ := by kernel_rfl
theorem note_nil (x : V) (σ : St) : (evT E TA 20).call 7 [.p none, x] false σ = some ⟨.i .i64 0, σ⟩ := by kernel_rfl
theorem len_nil (σ : St) : (evT E TA 20).call 8 [.p none] false σ = some ⟨.i .i64 0, σ⟩ := by kernel_rfl
theorem twice_nil (σ : St) : (evT E TA 20).call 9 [.p none] false σ = some ⟨.i .i64 0, σ⟩ := by kernel_rfl
theorem callTo_run {T : Tr Ctr} {f : FuncId} {args : List V} {σ : St} {m : Nat} {r : VS} {Q : V → St → Prop} (h : (evT E T m).call f args false σ = some r) (hq : Q r.v r.σ) : CallTo E T f args σ Q := by
  unfold CallTo; exact ⟨m, r, h, hq⟩

theorem TA_4 : TA.get 4 = some (relCtr (quietP Vm22)) := by unfold TA; rw [Tr.get_set, if_pos rfl]
theorem TA_no {f : Nat} (h : f ≠ 4) : TA.get f = none := by unfold TA; rw [Tr.get_set, if_neg h]; rfl

theorem has_nil {σ : St} {k : List Nat} (hn : σ.next + 1 ≤ big) : FnTo E TA 10 [.p none, .ag (hv k)] σ fun v σ' => v = .b false ∧ Grow σ σ' ∧ σ'.next = σ.next + 1 := by
  refine fnTo (fn := Tryz.f10) (by kernel_rfl) rfl (by kernel_rfl) ?_
  rw [show Tryz.f10.ntmps = 15 from rfl]
  simp only [Tr.ofList]
  ((repeat refine codeTo_seq ?_); refine codeTo_region (by kernel_rfl) ?_)
  (repeat (first | refine opsTo_nil ?_ | (refine sV rfl rfl ?_; simp only [go_sem, List.getElem?_toArray, Int.ofNat_eq_natCast, reduceIte, Nat.reduceEqDiff, Nat.reduceAdd, List.getElem?_cons_zero, List.getElem?_cons_succ, Bool.not_true, Bool.not_false]) | (refine sR rfl rfl ?_; simp only [go_sem, List.getElem?_toArray, Int.ofNat_eq_natCast, reduceIte, Nat.reduceEqDiff, Nat.reduceAdd, List.getElem?_cons_zero, List.getElem?_cons_succ, Bool.not_true, Bool.not_false]) | (refine sM rfl rfl ?_; simp only [go_sem, List.getElem?_toArray, Int.ofNat_eq_natCast, reduceIte, Nat.reduceEqDiff, Nat.reduceAdd, List.getElem?_cons_zero, List.getElem?_cons_succ, Bool.not_true, Bool.not_false]) | (refine sVg rfl rfl ?_ ?_; (solve | simp only [go_sem, List.getElem?_toArray, Int.ofNat_eq_natCast, reduceIte, Nat.reduceEqDiff, Nat.reduceAdd, List.getElem?_cons_zero, List.getElem?_cons_succ, Bool.not_true, Bool.not_false]); simp only [go_sem, List.getElem?_toArray, Int.ofNat_eq_natCast, reduceIte, Nat.reduceEqDiff, Nat.reduceAdd, List.getElem?_cons_zero, List.getElem?_cons_succ, Bool.not_true, Bool.not_false]) | (refine sRg rfl rfl ?_ ?_; (solve | simp only [go_sem, List.getElem?_toArray, Int.ofNat_eq_natCast, reduceIte, Nat.reduceEqDiff, Nat.reduceAdd, List.getElem?_cons_zero, List.getElem?_cons_succ, Bool.not_true, Bool.not_false]); simp only [go_sem, List.getElem?_toArray, Int.ofNat_eq_natCast, reduceIte, Nat.reduceEqDiff, Nat.reduceAdd, List.getElem?_cons_zero, List.getElem?_cons_succ, Bool.not_true, Bool.not_false]) | (refine sS rfl rfl ?_ ?_; (solve | simp only [go_sem, List.getElem?_toArray, Int.ofNat_eq_natCast, reduceIte, Nat.reduceEqDiff, Nat.reduceAdd, List.getElem?_cons_zero, List.getElem?_cons_succ, Bool.not_true, Bool.not_false]); simp only [go_sem, List.getElem?_toArray, Int.ofNat_eq_natCast, reduceIte, Nat.reduceEqDiff, Nat.reduceAdd, List.getElem?_cons_zero, List.getElem?_cons_succ, Bool.not_true, Bool.not_false])))
  (try simp only [go_sem, List.getElem?_toArray, Int.ofNat_eq_natCast, reduceIte, Nat.reduceEqDiff, Nat.reduceAdd, List.getElem?_cons_zero, List.getElem?_cons_succ, Bool.not_true, Bool.not_false])
  have gG : Grow σ (σ.new (.cells (V.ag (hv k)).cells 24 .ex)) := Grow.new _ _
  have gn : (σ.new (.cells (V.ag (hv k)).cells 24 .ex)).next = σ.next + 1 := rfl
  generalize σ.new (.cells (V.ag (hv k)).cells 24 .ex) = τ at gG gn
  ((repeat refine codeTo_seq ?_); refine codeTo_draw0 [⟨0, .value, [], 0⟩, ⟨1, .reads, [], 0⟩, ⟨2, .value, [], 0⟩, ⟨3, .value, [], 0⟩, ⟨4, .value, [], 0⟩, ⟨5, .value, [], 0⟩, ⟨6, .reads, [], 0⟩, ⟨7, .reads, [], 0⟩, ⟨8, .reads, [], 0⟩, ⟨9, .value, [], 0⟩, ⟨10, .value, [], 0⟩] (by kernel_rfl) (by kernel_rfl) ?_ ?_)
  · omega
  (repeat (first | refine drawTo_nil ?_ | (refine dV rfl rfl rfl ?_; simp only [go_sem, List.getElem?_toArray, Int.ofNat_eq_natCast, reduceIte, Nat.reduceEqDiff, Nat.reduceAdd, List.getElem?_cons_zero, List.getElem?_cons_succ, Bool.not_true, Bool.not_false]) | (refine dR rfl rfl rfl ?_; simp only [go_sem, List.getElem?_toArray, Int.ofNat_eq_natCast, reduceIte, Nat.reduceEqDiff, Nat.reduceAdd, List.getElem?_cons_zero, List.getElem?_cons_succ, Bool.not_true, Bool.not_false]) | (refine dVg rfl rfl rfl ?_ ?_; (solve | simp only [go_sem, List.getElem?_toArray, Int.ofNat_eq_natCast, reduceIte, Nat.reduceEqDiff, Nat.reduceAdd, List.getElem?_cons_zero, List.getElem?_cons_succ, Bool.not_true, Bool.not_false]); simp only [go_sem, List.getElem?_toArray, Int.ofNat_eq_natCast, reduceIte, Nat.reduceEqDiff, Nat.reduceAdd, List.getElem?_cons_zero, List.getElem?_cons_succ, Bool.not_true, Bool.not_false]) | (refine dRg rfl rfl rfl ?_ ?_; (solve | simp only [go_sem, List.getElem?_toArray, Int.ofNat_eq_natCast, reduceIte, Nat.reduceEqDiff, Nat.reduceAdd, List.getElem?_cons_zero, List.getElem?_cons_succ, Bool.not_true, Bool.not_false]); simp only [go_sem, List.getElem?_toArray, Int.ofNat_eq_natCast, reduceIte, Nat.reduceEqDiff, Nat.reduceAdd, List.getElem?_cons_zero, List.getElem?_cons_succ, Bool.not_true, Bool.not_false]) | (refine dS rfl rfl rfl ?_ (by decide) ?_; (solve | simp only [go_sem, List.getElem?_toArray, Int.ofNat_eq_natCast, reduceIte, Nat.reduceEqDiff, Nat.reduceAdd, List.getElem?_cons_zero, List.getElem?_cons_succ, Bool.not_true, Bool.not_false]); simp only [go_sem, List.getElem?_toArray, Int.ofNat_eq_natCast, reduceIte, Nat.reduceEqDiff, Nat.reduceAdd, List.getElem?_cons_zero, List.getElem?_cons_succ, Bool.not_true, Bool.not_false])))
  ((repeat refine codeTo_seq ?_); refine codeTo_ret ?_; (try simp only [andThen_ret, outOf_ret]))
  refine hands_tmp (ts := [4]) rfl trivial ?_
  (try simp only [go_sem, List.getElem?_toArray, Int.ofNat_eq_natCast, reduceIte, Nat.reduceEqDiff, Nat.reduceAdd, List.getElem?_cons_zero, List.getElem?_cons_succ, Bool.not_true, Bool.not_false, List.map, tuV])
  exact ⟨trivial, gG, gn⟩

@[go_sem] theorem agg_36 : E.agg 36 = some false := by kernel_rfl
@[go_sem] theorem size_36 : E.size 36 = some 1 := by kernel_rfl
theorem zero_36 : E.zero 36 = some (.sl none 0 (.ex 0)) := by kernel_rfl
theorem und_44 : E.und 44 = E.und 44 := rfl
theorem ptr_44 {x y : Operand} {σ : St} : eqOther E 44 x y false (.p none) (.p none) σ = some (.b true) := by kernel_rfl
theorem serve_nil {σ : St} : FnTo E TA 12 [.p none, .sl none 0 (.ex 0)] σ fun v σ' => v = .tu [.sl none 0 (.ex 0), .sl none 0 (.ex 0), .i .i64 18] ∧ Grow σ σ' ∧ σ'.next = σ.next + 1 := by
  have key : ∀ (τ : St) (id : Nat), τ.get id = some (.cells [.sl none 0 (.ex 0)] 36 .ex) → storeV 1 (.p (some (id, 0))) (.sl none 0 (.ex 0)) τ = some (.val undefV (τ.put id (.cells [.sl none 0 (.ex 0)] 36 .ex))) := by
    intro τ id h
    show bcase (Nat.beq (lenL [V.sl none 0 (.ex 0)]) 1) (writeK τ id 0 [.sl none 0 (.ex 0)] (done undefV)) none = _
    unfold writeK
    rw [h]
    dsimp only
    rw [show Nat.beq (lenL [V.sl none 0 (.ex 0)]) 1 = true from rfl, bcase_true, bcase_eq, if_pos (by rfl), splK_eq, St.putK_eq]
    rfl
  refine fnTo (fn := Tryz.f12) (by kernel_rfl) rfl (by kernel_rfl) ?_
  rw [show Tryz.f12.ntmps = 57 from rfl]
  simp only [Tr.ofList]
  ((repeat refine codeTo_seq ?_); refine codeTo_region (by kernel_rfl) ?_)
  (repeat (first | refine opsTo_nil ?_ | (refine sV rfl rfl ?_; simp only [go_sem, List.getElem?_toArray, Int.ofNat_eq_natCast, reduceIte, Nat.reduceEqDiff, Nat.reduceAdd, List.getElem?_cons_zero, List.getElem?_cons_succ, Bool.not_true, Bool.not_false, zero_36]) | (refine sR rfl rfl ?_; simp only [go_sem, List.getElem?_toArray, Int.ofNat_eq_natCast, reduceIte, Nat.reduceEqDiff, Nat.reduceAdd, List.getElem?_cons_zero, List.getElem?_cons_succ, Bool.not_true, Bool.not_false, zero_36]) | (refine sM rfl rfl ?_; simp only [go_sem, List.getElem?_toArray, Int.ofNat_eq_natCast, reduceIte, Nat.reduceEqDiff, Nat.reduceAdd, List.getElem?_cons_zero, List.getElem?_cons_succ, Bool.not_true, Bool.not_false, zero_36]) | (refine sVg rfl rfl ?_ ?_; (solve | simp only [go_sem, List.getElem?_toArray, Int.ofNat_eq_natCast, reduceIte, Nat.reduceEqDiff, Nat.reduceAdd, List.getElem?_cons_zero, List.getElem?_cons_succ, Bool.not_true, Bool.not_false, zero_36]); simp only [go_sem, List.getElem?_toArray, Int.ofNat_eq_natCast, reduceIte, Nat.reduceEqDiff, Nat.reduceAdd, List.getElem?_cons_zero, List.getElem?_cons_succ, Bool.not_true, Bool.not_false, zero_36]) | (refine sRg rfl rfl ?_ ?_; (solve | simp only [go_sem, List.getElem?_toArray, Int.ofNat_eq_natCast, reduceIte, Nat.reduceEqDiff, Nat.reduceAdd, List.getElem?_cons_zero, List.getElem?_cons_succ, Bool.not_true, Bool.not_false, zero_36]); simp only [go_sem, List.getElem?_toArray, Int.ofNat_eq_natCast, reduceIte, Nat.reduceEqDiff, Nat.reduceAdd, List.getElem?_cons_zero, List.getElem?_cons_succ, Bool.not_true, Bool.not_false, zero_36]) | (refine sS rfl rfl ?_ ?_; (solve | simp only [go_sem, List.getElem?_toArray, Int.ofNat_eq_natCast, reduceIte, Nat.reduceEqDiff, Nat.reduceAdd, List.getElem?_cons_zero, List.getElem?_cons_succ, Bool.not_true, Bool.not_false, zero_36]); simp only [go_sem, List.getElem?_toArray, Int.ofNat_eq_natCast, reduceIte, Nat.reduceEqDiff, Nat.reduceAdd, List.getElem?_cons_zero, List.getElem?_cons_succ, Bool.not_true, Bool.not_false, zero_36])))
  (try simp only [go_sem, List.getElem?_toArray, Int.ofNat_eq_natCast, reduceIte, Nat.reduceEqDiff, Nat.reduceAdd, List.getElem?_cons_zero, List.getElem?_cons_succ, Bool.not_true, Bool.not_false])
  have g1 : (σ.new (.cells (V.sl none 0 (.ex 0)).cells 36 .ex)).get σ.next = some (.cells [.sl none 0 (.ex 0)] 36 .ex) := by rw [St.get_new]; exact if_pos rfl
  have gG : Grow σ (σ.new (.cells (V.sl none 0 (.ex 0)).cells 36 .ex)) := Grow.new _ _
  have gn : (σ.new (.cells (V.sl none 0 (.ex 0)).cells 36 .ex)).next = σ.next + 1 := rfl
  generalize σ.new (.cells (V.sl none 0 (.ex 0)).cells 36 .ex) = τ at g1 gG gn
  have ks := key τ σ.next g1
  ((repeat refine codeTo_seq ?_); refine codeTo_block ?_)
  ((repeat refine codeTo_seq ?_); refine codeTo_region (by kernel_rfl) ?_)
  (repeat (first | refine opsTo_nil ?_ | (refine sV rfl rfl ?_; simp only [go_sem, List.getElem?_toArray, Int.ofNat_eq_natCast, reduceIte, Nat.reduceEqDiff, Nat.reduceAdd, List.getElem?_cons_zero, List.getElem?_cons_succ, Bool.not_true, Bool.not_false, ptr_44]) | (refine sR rfl rfl ?_; simp only [go_sem, List.getElem?_toArray, Int.ofNat_eq_natCast, reduceIte, Nat.reduceEqDiff, Nat.reduceAdd, List.getElem?_cons_zero, List.getElem?_cons_succ, Bool.not_true, Bool.not_false, ptr_44]) | (refine sM rfl rfl ?_; simp only [go_sem, List.getElem?_toArray, Int.ofNat_eq_natCast, reduceIte, Nat.reduceEqDiff, Nat.reduceAdd, List.getElem?_cons_zero, List.getElem?_cons_succ, Bool.not_true, Bool.not_false, ptr_44]) | (refine sVg rfl rfl ?_ ?_; (solve | simp only [go_sem, List.getElem?_toArray, Int.ofNat_eq_natCast, reduceIte, Nat.reduceEqDiff, Nat.reduceAdd, List.getElem?_cons_zero, List.getElem?_cons_succ, Bool.not_true, Bool.not_false, ptr_44]); simp only [go_sem, List.getElem?_toArray, Int.ofNat_eq_natCast, reduceIte, Nat.reduceEqDiff, Nat.reduceAdd, List.getElem?_cons_zero, List.getElem?_cons_succ, Bool.not_true, Bool.not_false, ptr_44]) | (refine sRg rfl rfl ?_ ?_; (solve | simp only [go_sem, List.getElem?_toArray, Int.ofNat_eq_natCast, reduceIte, Nat.reduceEqDiff, Nat.reduceAdd, List.getElem?_cons_zero, List.getElem?_cons_succ, Bool.not_true, Bool.not_false, ptr_44]); simp only [go_sem, List.getElem?_toArray, Int.ofNat_eq_natCast, reduceIte, Nat.reduceEqDiff, Nat.reduceAdd, List.getElem?_cons_zero, List.getElem?_cons_succ, Bool.not_true, Bool.not_false, ptr_44]) | (refine sS rfl rfl ?_ ?_; (solve | simp only [go_sem, List.getElem?_toArray, Int.ofNat_eq_natCast, reduceIte, Nat.reduceEqDiff, Nat.reduceAdd, List.getElem?_cons_zero, List.getElem?_cons_succ, Bool.not_true, Bool.not_false, ptr_44]); simp only [go_sem, List.getElem?_toArray, Int.ofNat_eq_natCast, reduceIte, Nat.reduceEqDiff, Nat.reduceAdd, List.getElem?_cons_zero, List.getElem?_cons_succ, Bool.not_true, Bool.not_false, ptr_44])))
  (try simp only [go_sem, List.getElem?_toArray, Int.ofNat_eq_natCast, reduceIte, Nat.reduceEqDiff, Nat.reduceAdd, List.getElem?_cons_zero, List.getElem?_cons_succ, Bool.not_true, Bool.not_false])
  ((repeat refine codeTo_seq ?_); refine codeTo_cond (t := true) ?_ (fun _ => ?_) (fun h => by cases h)); (solve | simp only [go_sem, List.getElem?_toArray, Int.ofNat_eq_natCast, reduceIte, Nat.reduceEqDiff, Nat.reduceAdd, List.getElem?_cons_zero, List.getElem?_cons_succ, Bool.not_true, Bool.not_false])
  ((repeat refine codeTo_seq ?_); refine codeTo_region (by kernel_rfl) ?_)
  (first | (refine sA rfl rfl ?_; simp only [go_sem, List.getElem?_toArray, Int.ofNat_eq_natCast, reduceIte, Nat.reduceEqDiff, Nat.reduceAdd, List.getElem?_cons_zero, List.getElem?_cons_succ, Bool.not_true, Bool.not_false, storeC, size_36, ks]) | (refine sAg rfl rfl ?_ ?_; (solve | simp only [go_sem, List.getElem?_toArray, Int.ofNat_eq_natCast, reduceIte, Nat.reduceEqDiff, Nat.reduceAdd, List.getElem?_cons_zero, List.getElem?_cons_succ, Bool.not_true, Bool.not_false, storeC, size_36, ks]); simp only [go_sem, List.getElem?_toArray, Int.ofNat_eq_natCast, reduceIte, Nat.reduceEqDiff, Nat.reduceAdd, List.getElem?_cons_zero, List.getElem?_cons_succ, Bool.not_true, Bool.not_false, storeC, size_36, ks]))
  (repeat (first | refine opsTo_nil ?_ | (refine sV rfl rfl ?_; simp only [go_sem, List.getElem?_toArray, Int.ofNat_eq_natCast, reduceIte, Nat.reduceEqDiff, Nat.reduceAdd, List.getElem?_cons_zero, List.getElem?_cons_succ, Bool.not_true, Bool.not_false]) | (refine sR rfl rfl ?_; simp only [go_sem, List.getElem?_toArray, Int.ofNat_eq_natCast, reduceIte, Nat.reduceEqDiff, Nat.reduceAdd, List.getElem?_cons_zero, List.getElem?_cons_succ, Bool.not_true, Bool.not_false]) | (refine sM rfl rfl ?_; simp only [go_sem, List.getElem?_toArray, Int.ofNat_eq_natCast, reduceIte, Nat.reduceEqDiff, Nat.reduceAdd, List.getElem?_cons_zero, List.getElem?_cons_succ, Bool.not_true, Bool.not_false]) | (refine sVg rfl rfl ?_ ?_; (solve | simp only [go_sem, List.getElem?_toArray, Int.ofNat_eq_natCast, reduceIte, Nat.reduceEqDiff, Nat.reduceAdd, List.getElem?_cons_zero, List.getElem?_cons_succ, Bool.not_true, Bool.not_false]); simp only [go_sem, List.getElem?_toArray, Int.ofNat_eq_natCast, reduceIte, Nat.reduceEqDiff, Nat.reduceAdd, List.getElem?_cons_zero, List.getElem?_cons_succ, Bool.not_true, Bool.not_false]) | (refine sRg rfl rfl ?_ ?_; (solve | simp only [go_sem, List.getElem?_toArray, Int.ofNat_eq_natCast, reduceIte, Nat.reduceEqDiff, Nat.reduceAdd, List.getElem?_cons_zero, List.getElem?_cons_succ, Bool.not_true, Bool.not_false]); simp only [go_sem, List.getElem?_toArray, Int.ofNat_eq_natCast, reduceIte, Nat.reduceEqDiff, Nat.reduceAdd, List.getElem?_cons_zero, List.getElem?_cons_succ, Bool.not_true, Bool.not_false]) | (refine sS rfl rfl ?_ ?_; (solve | simp only [go_sem, List.getElem?_toArray, Int.ofNat_eq_natCast, reduceIte, Nat.reduceEqDiff, Nat.reduceAdd, List.getElem?_cons_zero, List.getElem?_cons_succ, Bool.not_true, Bool.not_false]); simp only [go_sem, List.getElem?_toArray, Int.ofNat_eq_natCast, reduceIte, Nat.reduceEqDiff, Nat.reduceAdd, List.getElem?_cons_zero, List.getElem?_cons_succ, Bool.not_true, Bool.not_false])))
  ((repeat refine codeTo_seq ?_); refine codeTo_ret ?_; (try simp only [andThen_ret, outOf_ret]))
  have g2 : (τ.put σ.next (.cells [.sl none 0 (.ex 0)] 36 .ex)).get σ.next = some (.cells [.sl none 0 (.ex 0)] 36 .ex) := by rw [St.get_put, if_pos rfl]
  have hG2 := gG.put (b := .cells [.sl none 0 (.ex 0)] 36 .ex) (Nat.le_refl σ.next)
  refine ⟨trivial, rfl, ⟨.tu [.sl none 0 (.ex 0), .sl none 0 (.ex 0), .i .i64 18], τ.put σ.next (.cells [.sl none 0 (.ex 0)] 36 .ex)⟩, ?_, rfl, hG2, gn⟩
  rw [show Tryz.f12.results.toList = [.cell 4 36, .tmp 5, .tmp 6] from rfl]
  have c2 := fun (k : List V → Option V) => cellsAt_go (k := k) g2
  (try simp only [go_sem, List.getElem?_toArray, Int.ofNat_eq_natCast, reduceIte, Nat.reduceEqDiff, Nat.reduceAdd, List.getElem?_cons_zero, List.getElem?_cons_succ, Bool.not_true, Bool.not_false, resC, c2])
  rfl
end Go.Proofs.Tz
