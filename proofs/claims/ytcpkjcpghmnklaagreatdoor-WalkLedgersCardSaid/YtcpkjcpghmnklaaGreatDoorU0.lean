/- WalkLedgers: the row's closed facts (0). -/
import Derived.Test.YtcpkjcpghmnklaaGreatDoorRows
import Derived.JoinedOf
import Derived.KernelRfl
import Derived.SevenTiedAt

namespace Go.Proofs.YtcpkjcpghmnklaaGreatDoor.walkLedgers
open Go
set_option maxRecDepth 100000
theorem fact0 : (fun (_ : Program) (_ : FuncId) (_ : Func) (s : ChangeSpec) (c : OpenClaim) => (c.wf (OpenSpec.ofChange s) : Bool)) Tryz.prog 3 Tryz.f3 (OpenSpec.ofChange Rows.walkLedgersSpec).bare Rows.walkLedgersRow = true := by kernel_rfl
theorem fact4 : (fun (P : Program) (_ : FuncId) (_ : Func) (s : ChangeSpec) (c : OpenClaim) => (namedTie P c.named s.vars : Bool)) Tryz.prog 3 Tryz.f3 (OpenSpec.ofChange Rows.walkLedgersSpec).bare Rows.walkLedgersRow = true := by kernel_rfl
theorem fact8 : (fun (P : Program) (_ : FuncId) (_ : Func) (_ : ChangeSpec) (_ : OpenClaim) => ((P.stopKnobs == []) : Bool)) Tryz.prog 3 Tryz.f3 (OpenSpec.ofChange Rows.walkLedgersSpec).bare Rows.walkLedgersRow = true := by kernel_rfl
theorem fact12 : (fun (P : Program) (f : FuncId) (_ : Func) (_ : ChangeSpec) (c : OpenClaim) => ((c.named == P.varsNamed f) : Bool)) Tryz.prog 3 Tryz.f3 (OpenSpec.ofChange Rows.walkLedgersSpec).bare Rows.walkLedgersRow = true := by kernel_rfl
theorem fact16 : (fun (P : Program) (_ : FuncId) (fn : Func) (s : ChangeSpec) (c : OpenClaim) => ((c.loops == (fn.params.toList ++ s.plain.varTypes P).any (P.loopsFrom ·)) : Bool)) Tryz.prog 3 Tryz.f3 (OpenSpec.ofChange Rows.walkLedgersSpec).bare Rows.walkLedgersRow = true := by kernel_rfl
theorem fact20 : (fun (P : Program) (_ : FuncId) (fn : Func) (_ : ChangeSpec) (c : OpenClaim) => ((c.ifacesOut == fn.resultTypes.toList.any (P.ifacesRec ·)) : Bool)) Tryz.prog 3 Tryz.f3 (OpenSpec.ofChange Rows.walkLedgersSpec).bare Rows.walkLedgersRow = true := by kernel_rfl
theorem fact24 : (fun (P : Program) (_ : FuncId) (_ : Func) (_ : ChangeSpec) (_ : OpenClaim) => (P.stopsHeard : Bool)) Tryz.prog 3 Tryz.f3 (OpenSpec.ofChange Rows.walkLedgersSpec).bare Rows.walkLedgersRow = true := by kernel_rfl
theorem fact28 : (fun (P : Program) (_ : FuncId) (fn : Func) (_ : ChangeSpec) (c : OpenClaim) => ((c.kinds == (if c.domain.isEmpty then [] else fn.params.toList.map fun t => match P.underlying t with | some (.int k) => some k | _ => none)) : Bool)) Tryz.prog 3 Tryz.f3 (OpenSpec.ofChange Rows.walkLedgersSpec).bare Rows.walkLedgersRow = true := by kernel_rfl
theorem c_wf : Rows.walkLedgersRow.wfByText (OpenSpec.ofChange Rows.walkLedgersSpec) = true := by kernel_rfl
end Go.Proofs.YtcpkjcpghmnklaaGreatDoor.walkLedgers
