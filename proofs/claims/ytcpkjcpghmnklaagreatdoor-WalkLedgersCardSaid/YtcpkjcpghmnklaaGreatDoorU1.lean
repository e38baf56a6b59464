/- WalkLedgers: the row's closed facts (1). -/
import Derived.Test.YtcpkjcpghmnklaaGreatDoorRows
import Derived.JoinedOf
import Derived.KernelRfl
import Derived.SevenTiedAt

namespace Go.Proofs.YtcpkjcpghmnklaaGreatDoor.walkLedgers
open Go
set_option maxRecDepth 100000
theorem fact1 : (fun (P : Program) (_ : FuncId) (_ : Func) (_ : ChangeSpec) (_ : OpenClaim) => (laidOutB P : Bool)) Tryz.prog 3 Tryz.f3 (OpenSpec.ofChange Rows.walkLedgersSpec).bare Rows.walkLedgersRow = true := by kernel_rfl
theorem fact5 : (fun (_ : Program) (_ : FuncId) (_ : Func) (_ : ChangeSpec) (c : OpenClaim) => ((c.stops == []) : Bool)) Tryz.prog 3 Tryz.f3 (OpenSpec.ofChange Rows.walkLedgersSpec).bare Rows.walkLedgersRow = true := by kernel_rfl
theorem fact9 : (fun (P : Program) (f : FuncId) (_ : Func) (_ : ChangeSpec) (c : OpenClaim) => ((c.inPlace == P.inPlace f) : Bool)) Tryz.prog 3 Tryz.f3 (OpenSpec.ofChange Rows.walkLedgersSpec).bare Rows.walkLedgersRow = true := by kernel_rfl
theorem fact13 : (fun (P : Program) (_ : FuncId) (fn : Func) (s : ChangeSpec) (c : OpenClaim) => ((c.maps == (fn.params.toList ++ s.plain.varTypes P).any (P.mapsRec ·)) : Bool)) Tryz.prog 3 Tryz.f3 (OpenSpec.ofChange Rows.walkLedgersSpec).bare Rows.walkLedgersRow = true := by kernel_rfl
theorem fact17 : (fun (P : Program) (_ : FuncId) (fn : Func) (s : ChangeSpec) (c : OpenClaim) => ((c.wideKeys == (fn.params.toList ++ s.plain.varTypes P ++ fn.resultTypes.toList).any (P.wideKeysFrom ·)) : Bool)) Tryz.prog 3 Tryz.f3 (OpenSpec.ofChange Rows.walkLedgersSpec).bare Rows.walkLedgersRow = true := by kernel_rfl
theorem fact21 : (fun (P : Program) (_ : FuncId) (fn : Func) (_ : ChangeSpec) (c : OpenClaim) => ((c.loopsOut == fn.resultTypes.toList.any (P.loopsFrom ·)) : Bool)) Tryz.prog 3 Tryz.f3 (OpenSpec.ofChange Rows.walkLedgersSpec).bare Rows.walkLedgersRow = true := by kernel_rfl
theorem fact25 : (fun (P : Program) (_ : FuncId) (_ : Func) (_ : ChangeSpec) (_ : OpenClaim) => (P.mayEnter : Bool)) Tryz.prog 3 Tryz.f3 (OpenSpec.ofChange Rows.walkLedgersSpec).bare Rows.walkLedgersRow = true := by kernel_rfl
theorem fact29 : (fun (_ : Program) (_ : FuncId) (_ : Func) (_ : ChangeSpec) (c : OpenClaim) => ((c.pinned == c.pinnedBy) : Bool)) Tryz.prog 3 Tryz.f3 (OpenSpec.ofChange Rows.walkLedgersSpec).bare Rows.walkLedgersRow = true := by kernel_rfl
theorem c_main : Tryz.pinned.checked.prog.mainIs = some (true, "329b6ff363baced7b5aab06840d432c01401301e3c3dc781867299a33d135719".toList) := by kernel_rfl
end Go.Proofs.YtcpkjcpghmnklaaGreatDoor.walkLedgers
