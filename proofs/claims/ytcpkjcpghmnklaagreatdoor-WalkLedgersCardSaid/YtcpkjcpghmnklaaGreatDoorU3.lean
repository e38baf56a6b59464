/- WalkLedgers: the row's closed facts (3). -/
import Derived.Test.YtcpkjcpghmnklaaGreatDoorRows
import Derived.JoinedOf
import Derived.KernelRfl
import Derived.SevenTiedAt

namespace Go.Proofs.YtcpkjcpghmnklaaGreatDoor.walkLedgers
open Go
set_option maxRecDepth 100000
theorem fact3 : (fun (P : Program) (_ : FuncId) (fn : Func) (_ : ChangeSpec) (_ : OpenClaim) => (fn.params.all (P.readableRec ·) : Bool)) Tryz.prog 3 Tryz.f3 (OpenSpec.ofChange Rows.walkLedgersSpec).bare Rows.walkLedgersRow = true := by kernel_rfl
theorem fact7 : (fun (_ : Program) (_ : FuncId) (_ : Func) (_ : ChangeSpec) (c : OpenClaim) => ((c.knobs == []) : Bool)) Tryz.prog 3 Tryz.f3 (OpenSpec.ofChange Rows.walkLedgersSpec).bare Rows.walkLedgersRow = true := by kernel_rfl
theorem fact11 : (fun (P : Program) (f : FuncId) (_ : Func) (_ : ChangeSpec) (c : OpenClaim) => ((c.recurses == P.recurses f) : Bool)) Tryz.prog 3 Tryz.f3 (OpenSpec.ofChange Rows.walkLedgersSpec).bare Rows.walkLedgersRow = true := by kernel_rfl
theorem fact15 : (fun (P : Program) (_ : FuncId) (fn : Func) (_ : ChangeSpec) (c : OpenClaim) => ((c.mapsOut == P.mapsAmong fn.resultTypes.toList) : Bool)) Tryz.prog 3 Tryz.f3 (OpenSpec.ofChange Rows.walkLedgersSpec).bare Rows.walkLedgersRow = true := by kernel_rfl
theorem fact19 : (fun (P : Program) (_ : FuncId) (fn : Func) (_ : ChangeSpec) (_ : OpenClaim) => (fn.resultTypes.all (fun t => P.readableRec t && decide (t < P.types.size)) : Bool)) Tryz.prog 3 Tryz.f3 (OpenSpec.ofChange Rows.walkLedgersSpec).bare Rows.walkLedgersRow = true := by kernel_rfl
theorem fact23 : (fun (_ : Program) (_ : FuncId) (_ : Func) (_ : ChangeSpec) (c : OpenClaim) => (c.shortTexts.isNone : Bool)) Tryz.prog 3 Tryz.f3 (OpenSpec.ofChange Rows.walkLedgersSpec).bare Rows.walkLedgersRow = true := by kernel_rfl
theorem fact27 : (fun (P : Program) (_ : FuncId) (_ : Func) (_ : ChangeSpec) (c : OpenClaim) => ((P.make == some c.make) : Bool)) Tryz.prog 3 Tryz.f3 (OpenSpec.ofChange Rows.walkLedgersSpec).bare Rows.walkLedgersRow = true := by kernel_rfl
theorem fact31 : (fun (P : Program) (_ : FuncId) (fn : Func) (s : ChangeSpec) (c : OpenClaim) => (c.veiledFits P fn.params.toList (fn.params.toList ++ s.plain.varTypes P ++ fn.resultTypes.toList) : Bool)) Tryz.prog 3 Tryz.f3 (OpenSpec.ofChange Rows.walkLedgersSpec).bare Rows.walkLedgersRow = true := by kernel_rfl
end Go.Proofs.YtcpkjcpghmnklaaGreatDoor.walkLedgers
