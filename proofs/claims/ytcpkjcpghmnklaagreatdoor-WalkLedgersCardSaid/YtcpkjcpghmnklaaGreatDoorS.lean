/- WalkLedgers: for every input the statement's function returns true, and each argument reads behind the call as it read before. Condition: the listed package variables hold what the program's text lays (the card ties them). -/
import Derived.Test.YtcpkjcpghmnklaaGreatDoorR
import Derived.WalkKit
import Derived.Deep.DeepHandedRow
import Derived.Deep.DeepWitnessRowRef
import Derived.Lib.LaidTab
import Derived.LaidMore
import Derived.SevenTiedAt
set_option linter.all false

namespace Go.Proofs.YtcpkjcpghmnklaaGreatDoor.walkLedgers
open Go Go.AM Go.ChangeShapes Go.WideShapes Go.ChangeAt Go.RowKit Go.Proofs.Tz
set_option maxRecDepth 100000

def ns17 : List Nat := [0, 1, 28, 2, 29, 14, 24, 3, 30, 22, 20, 15, 25, 17, 4, 8, 31, 27, 13, 23, 21, 19, 16, 7, 26, 12, 18, 6, 11, 5, 10, 9]
def ns18 : List Nat := [0, 1, 56, 2, 57, 49, 28, 3, 61, 58, 42, 50, 38, 29, 17, 4, 62, 47, 59, 36, 45, 43, 51, 22, 53, 39, 33, 30, 24, 18, 12, 5, 63, 55, 48, 27, 60, 41, 37, 16, 46, 35, 44, 21, 52, 32, 23, 11, 54, 26, 40, 15, 34, 20, 31, 10, 25, 14, 19, 9, 13, 8, 7, 6]
def ns19 : List Nat := [1, 10, 100, 1000, 10000, 100000, 1000000, 10000000, 100000000, 1000000000, 10000000000, 100000000000, 1000000000000, 10000000000000, 100000000000000, 1000000000000000, 10000000000000000, 100000000000000000, 1000000000000000000, 10000000000000000000]

theorem rep_ns (ρ : Pm) (k : IntKind) (ns : List Nat) : RepL ρ (ns.map fun n => V.i k (.ofNat n)) ((ns.map fun (n : Nat) => (n : Int)).map fun z => Value.int k z) := by
  induction ns with
  | nil => exact .nil
  | cons x xs ih => exact .cons _ _ _ _ (.i k x) ih

theorem tabW_of {W : World} {laid : List (String × DataW Unit)} {name : String} {g t n e : Nat} {k : IntKind} {ns : List Nat} {c : List V} {el : TypeId}
    (hL : laidMet Tryz.prog laid W) (hm : (name, Lib.tabData k (ns.map fun (n : Nat) => (n : Int))) ∈ laid) (hg : Tryz.prog.globalNamed name = some g) (hty : (Tryz.prog.globals[g]?).map (·.type) = some t)
    (ht : Tryz.prog.underlying t = some (.array n e)) (he : Tryz.prog.underlying e = some (.int k)) (hce : Tryz.prog.cellsOf e = 1) (hct : Tryz.prog.cellsOf t = n)
    (hc : c = ns.map fun n => V.i k (.ofNat n)) (hsh : ∃ arr frz, W.heap[g]? = some (.cells arr el frz)) : TabW W g c el := by
  obtain ⟨g', t', cs, fuel, p, h1, h2, h3, h4⟩ := Lib.laidMet.reads hL hm
  obtain rfl := Option.some.inj (hg.symm.trans h1)
  obtain rfl := Option.some.inj (hty.symm.trans h2)
  have h5 := Lib.cells_of_tab ht he hce hct h4
  obtain ⟨arr, frz, h6⟩ := hsh
  have h7 : arr = cs := by
    unfold World.var? at h3
    rw [hg] at h3
    simp only [Option.bind_some, h6, Option.some.injEq] at h3
    exact h3
  refine ⟨arr, frz, h6, fun ρ => ?_⟩
  have h8 : win arr.toList 0 c.length = (ns.map fun (n : Nat) => (n : Int)).map fun z => Value.int k z := by
    rw [h7, h5, hc]
    unfold win
    rw [List.drop_zero, List.take_of_length_le (by simp)]
  rw [h8, hc]
  exact rep_ns ρ k ns

theorem shape_at {W : World} (h : W.ShapedOpen Tryz.prog) {g t : Nat} (hg : g < Tryz.prog.globals.size) (ht : (((begin Tryz.prog (fun _ _ => 0) default).world.heap[g]?).bind Obj.row?).map (·.2) = some t) : ∃ arr frz, W.heap[g]? = some (.cells arr t frz) := by
  obtain ⟨⟨zero, t'⟩, h1, rfl⟩ := Option.map_eq_some_iff.1 ht
  obtain ⟨cs, h2, _⟩ := h.1 g zero _ hg h1
  exact ⟨cs, _, h2⟩

theorem own : ownKnob Tryz.prog.godebug = none := by kernel_rfl
theorem laidOut : laidOutB Tryz.prog = true := by kernel_rfl
theorem d17 : (Rows.laid_math_bits_deBruijn32tab : DataW Unit) = Lib.tabData .u8 (ns17.map fun (n : Nat) => (n : Int)) := by kernel_rfl
theorem d18 : (Rows.laid_math_bits_deBruijn64tab : DataW Unit) = Lib.tabData .u8 (ns18.map fun (n : Nat) => (n : Int)) := by kernel_rfl
theorem d19 : (Rows.laid_internal_strconv_uint64pow10 : DataW Unit) = Lib.tabData .u64 (ns19.map fun (n : Nat) => (n : Int)) := by kernel_rfl

/-- What the call comes to, for every argument, in every world that holds the tables. -/
theorem contract (H : Type) (enc : TypeId × Value → H) (W : World) (base : Nat) (args : Array Value) (ds gs : List (DataW H)) (before : List MemPlace)
    (hval : ∀ (j : Nat) t v, Tryz.f3.params[j]? = some t → args[j]? = some v → Value.okWide Tryz.prog W .any base t v)
    (hW : DataW.Whole enc Tryz.prog Tryz.f3.params.toList Rows.walkLedgersSpec.vars false W args.toList ds gs before) (hL : laidMetH Tryz.prog Rows.walkLedgersRow.laid W) (hS : W.ShapedOpen Tryz.prog) :
    Calls Tryz.prog 3 args W fun e W' => ∃ v, e = .returned v ∧ Rows.walkLedgersSpec.post enc Tryz.prog Tryz.f3 false true false false W args v W' := by
  have hW' := hW
  obtain ⟨p, q, hA0, hV, rfl, hfz, hnd⟩ := hW
  have hA : DataW.TrodAll enc Tryz.prog W 0 (fun _ => true) true Tryz.f3.params.toList args.toList ds p := hA0
  rw [Tryz.params3] at hA hval
  obtain ⟨v0, vs0, d0, ds0, p0, q0, hargs, rfl, rfl, h0, r0⟩ := trodAll_cons hA
  obtain ⟨v1, vs1, d1, ds1, p1, q1, hargs1, rfl, rfl, h1, r1⟩ := trodAll_cons r0
  obtain ⟨rfl, rfl, rfl⟩ := trodAll_nil r1
  subst hargs1
  obtain rfl : args = #[v0, v1] := by cases args; simp_all
  obtain ⟨rfl, rfl⟩ := trodVars_none hV
  obtain ⟨a, len, cap, rfl⟩ := okWide_slice Tryz.underlying22 (hval 0 22 v0 rfl rfl)
  have h0k := h0
  have h1k := h1
  obtain ⟨fuel0, t0⟩ := h0
  obtain ⟨el, L, ho, hi⟩ := outer_of (show DataW.trod enc Tryz.prog W 0 (fun _ => true) true fuel0 22 [Value.slice a len cap] = some (d0, p0) from t0)
  obtain ⟨fuel1, t1⟩ := h1
  obtain ⟨h, hh, hcs⟩ := hash_of t1
  obtain rfl : v1 = .agg (vals h).toArray := by
    have hl : v1.cells.toList.length = 32 := by rw [hcs, vals_len, hh]
    cases v1 with
    | agg cs => obtain ⟨l⟩ := cs; have : l = vals h := hcs; rw [this]
    | _ => simp [Value.cells] at hl
  rw [MakeChecks.laidMetH_plain _ _ _ (by kernel_rfl)] at hL
  have s3 := shape_at hS (g := 3) (t := 23) (of_decide_eq_true (by kernel_rfl)) (by kernel_rfl)
  have s4 := shape_at hS (g := 4) (t := 482) (of_decide_eq_true (by kernel_rfl)) (by kernel_rfl)
  have s5 := shape_at hS (g := 5) (t := 536) (of_decide_eq_true (by kernel_rfl)) (by kernel_rfl)
  have s7 := shape_at hS (g := 7) (t := 501) (of_decide_eq_true (by kernel_rfl)) (by kernel_rfl)
  have hsz : 8 ≤ W.heap.size := by obtain ⟨_, _, e⟩ := s7; exact heap_lt e
  have t3 : TabW W 3 VxL17 23 := tabW_of hL (name := "math/bits.deBruijn32tab") (ns := ns17) (t := 23) (n := 32) (e := 5) (k := .u8) (by rw [← d17]; exact List.mem_of_getElem? (i := 0) rfl) (by kernel_rfl) (by kernel_rfl) Tryz.underlying23 Tryz.underlying5 (by kernel_rfl) (by kernel_rfl) (by kernel_rfl) s3
  have t4 : TabW W 4 VxL18 482 := tabW_of hL (name := "math/bits.deBruijn64tab") (ns := ns18) (t := 482) (n := 64) (e := 5) (k := .u8) (by rw [← d18]; exact List.mem_of_getElem? (i := 1) rfl) (by kernel_rfl) (by kernel_rfl) Tryz.underlying482 Tryz.underlying5 (by kernel_rfl) (by kernel_rfl) (by kernel_rfl) s4
  have t5 : TabW W 5 VxL19 536 := tabW_of hL (name := "internal/strconv.uint64pow10") (ns := ns19) (t := 536) (n := 20) (e := 219) (k := .u64) (by rw [← d19]; exact List.mem_of_getElem? (i := 2) rfl) (by kernel_rfl) (by kernel_rfl) Tryz.underlying536 Tryz.underlying219 (by kernel_rfl) (by kernel_rfl) (by kernel_rfl) s5
  refine (run_of ho hi hh hsz t3 t4 t5).mono fun e W' ⟨he, hb⟩ => ?_
  subst he
  have hlt : ∀ x ∈ p0 ++ (p1 ++ []), x.block < W.heap.size := fun x hx => hW'.lt x (by simpa using hx)
  have a0 := Below.trod laidOut (by kernel_rfl) (of_decide_eq_true (by kernel_rfl)) h0k hb (fun x hx => hlt x (List.mem_append_left _ hx))
  have a1 := Below.trod laidOut (by kernel_rfl) (of_decide_eq_true (by kernel_rfl)) h1k hb (fun x hx => hlt x (List.mem_append_right _ (List.mem_append_left _ hx)))
  have aa : DataW.TrodAll enc Tryz.prog W' 0 (fun b => decide (b < W.heap.size)) true Tryz.f3.params.toList [Value.slice a len cap, .agg (vals h).toArray] [d0, d1] (p0 ++ (p1 ++ [])) := by
    rw [Tryz.params3]
    exact trodAll_cons_mk a0 (trodAll_cons_mk a1 trodAll_mk0)
  exact ⟨_, rfl, _, _, _, [], p0 ++ (p1 ++ []), [], hW', trodAll_cons_mk (shut_bool Tryz.underlying4 _) trodAll_mk0, aa, rfl, hb.frame _, fun h => by cases h⟩

/-- A world for the witness: what the door's own run leaves; the pinned table (block 1) holds its numbers. -/
noncomputable def laidWorld (os : Os) : World :=
  { World.doorLaid Tryz.prog 400 os with heap := (World.doorLaid Tryz.prog 400 os).heap.modify 1 fun
      | .cells _ t frozen => .cells (Go.Pinned.utf8FirstZ.map fun (n : Nat) => Value.int .u8 (n : Int)).toArray t frozen
      | o => o }
def wargs : Array Value := #[.slice none 0 0, .agg (Array.replicate 32 (.int .u8 0))]
theorem laid_met0 (os : Os) : (DataW.laidRun Tryz.prog ((laidWorld os).forCall (fun _ _ => 0) ⟨#[], wargs, []⟩).memory 8 (Rows.walkLedgersRow.laid.map (·.1))).map (·.1) = some Rows.walkLedgersRow.laid := by kernel_rfl
theorem laid_met (os : Os) : laidMetH Tryz.prog Rows.walkLedgersRow.laid ((laidWorld os).forCall (fun _ _ => 0) ⟨#[], wargs, []⟩).memory := by
  rw [MakeChecks.laidMetH_plain _ _ _ (by kernel_rfl)]
  exact laidMet_of_run' 8 (laid_met0 os) (by kernel_rfl)
theorem reads (os : Os) {H : Type} (enc : TypeId × Value → H) : ∃ places, DataW.whole enc Tryz.prog ((laidWorld os).forCall (fun _ _ => 0) ⟨#[], wargs, []⟩).memory Tryz.f3.params.toList Rows.walkLedgersSpec.vars false wargs.toList 8 = some ([.nil, .agg (List.replicate 32 (.lit (.int .u8 0)))], [], places) :=
  ⟨[], by kernel_rfl⟩

theorem lifted (os : Os) (started : os.Started) (H : Type) (enc : TypeId × Value → H) (F : Stop.Interp) :
    ReturnsInHanded {} Tryz.checked os 3 .any ((OpenSpec.ofChange Rows.walkLedgersSpec).preRow enc Tryz.prog Tryz.f3 Rows.walkLedgersRow.domain false Rows.walkLedgersRow.laid) (((OpenSpec.ofChange Rows.walkLedgersSpec).at F).post enc Tryz.prog Tryz.f3 false true false false) := by
  obtain ⟨places, hx⟩ := reads os enc
  refine returnsInHanded_of_row (C := Tryz.checked) (s := OpenSpec.ofChange Rows.walkLedgersSpec) own started (by kernel_rfl) Tryz.func3
    (witness_row_atRef (enc := enc) (C := Tryz.checked) false (laidWorld os) wargs rfl (by kernel_rfl) (by kernel_rfl) (by kernel_rfl)
      (OpenSpec.preRow_of_cond 8 hx (by kernel_rfl) (fun k hk => by cases hk) (by kernel_rfl) (laid_met os))) ?_
  intro W base args ds gs before hval hW _ _ _ hL hS _
  exact contract H enc W base args ds gs before hval hW hL hS

theorem plain (f : FuncId) (fn : Func) (hf : Tryz.pinned.checked.prog.funcNamed "hayloft/hayloftlaw27.WalkLedgers" = some f) (hfn : Tryz.pinned.checked.prog.funcs[f]? = some fn) :
    true = Tryz.pinned.checked.prog.looks [] ∧ ∀ (j : Nat) t, fn.params[j]? = some t → Tryz.pinned.checked.prog.wantsStandIn t = false := by
  obtain rfl : f = 3 := Option.some.inj ((show Tryz.prog.funcNamed "hayloft/hayloftlaw27.WalkLedgers" = some 3 by kernel_rfl).symm.trans hf) |>.symm
  obtain rfl : fn = Tryz.f3 := (Option.some.inj (Tryz.func3.symm.trans hfn)).symm
  refine ⟨by kernel_rfl, fun j t ht => ?_⟩
  rw [Tryz.params3] at ht
  have hm : t ∈ [22, 24] := by simpa using Array.mem_of_getElem? ht
  have hall : ([22, 24].all fun u => !Tryz.prog.wantsStandIn u) = true := by kernel_rfl
  exact (show Tryz.prog.wantsStandIn t = false by simpa using List.all_eq_true.1 hall t hm)

end Go.Proofs.YtcpkjcpghmnklaaGreatDoor.walkLedgers
