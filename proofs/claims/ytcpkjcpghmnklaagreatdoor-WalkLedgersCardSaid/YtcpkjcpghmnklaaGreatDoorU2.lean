/- WalkLedgers: the row's closed facts (2). -/
import Derived.Test.YtcpkjcpghmnklaaGreatDoorRows
import Derived.JoinedOf
import Derived.KernelRfl
import Derived.SevenTiedAt

namespace Go.Proofs.YtcpkjcpghmnklaaGreatDoor.walkLedgers
open Go
set_option maxRecDepth 100000
theorem fact2 : (fun (P : Program) (_ : FuncId) (_ : Func) (_ : ChangeSpec) (_ : OpenClaim) => (mapsRowed P : Bool)) Tryz.prog 3 Tryz.f3 (OpenSpec.ofChange Rows.walkLedgersSpec).bare Rows.walkLedgersRow = true := by kernel_rfl
theorem fact6 : (fun (P : Program) (_ : FuncId) (_ : Func) (_ : ChangeSpec) (_ : OpenClaim) => ((P.stops == []) : Bool)) Tryz.prog 3 Tryz.f3 (OpenSpec.ofChange Rows.walkLedgersSpec).bare Rows.walkLedgersRow = true := by kernel_rfl
theorem fact10 : (fun (P : Program) (f : FuncId) (_ : Func) (_ : ChangeSpec) (c : OpenClaim) => ((c.unfollowed == P.unfollowed f) : Bool)) Tryz.prog 3 Tryz.f3 (OpenSpec.ofChange Rows.walkLedgersSpec).bare Rows.walkLedgersRow = true := by kernel_rfl
theorem fact14 : (fun (P : Program) (_ : FuncId) (fn : Func) (s : ChangeSpec) (c : OpenClaim) => ((c.ifaces == (fn.params.toList ++ s.plain.varTypes P).any (P.ifacesRec ·)) : Bool)) Tryz.prog 3 Tryz.f3 (OpenSpec.ofChange Rows.walkLedgersSpec).bare Rows.walkLedgersRow = true := by kernel_rfl
theorem fact18 : (fun (P : Program) (_ : FuncId) (_ : Func) (s : ChangeSpec) (_ : OpenClaim) => (s.vars.all (P.varReadable ·) : Bool)) Tryz.prog 3 Tryz.f3 (OpenSpec.ofChange Rows.walkLedgersSpec).bare Rows.walkLedgersRow = true := by kernel_rfl
theorem fact22 : (fun (P : Program) (_ : FuncId) (_ : Func) (_ : ChangeSpec) (c : OpenClaim) => ((c.plainKeys == P.plainKeys) : Bool)) Tryz.prog 3 Tryz.f3 (OpenSpec.ofChange Rows.walkLedgersSpec).bare Rows.walkLedgersRow = true := by kernel_rfl
theorem fact26 : (fun (P : Program) (_ : FuncId) (_ : Func) (_ : ChangeSpec) (c : OpenClaim) => ((c.lifted == P.liftsFinal) : Bool)) Tryz.prog 3 Tryz.f3 (OpenSpec.ofChange Rows.walkLedgersSpec).bare Rows.walkLedgersRow = true := by kernel_rfl
theorem fact30 : (fun (P : Program) (_ : FuncId) (fn : Func) (s : ChangeSpec) (c : OpenClaim) => ((c.veiled == (fn.params.toList ++ s.plain.varTypes P ++ fn.resultTypes.toList).any (P.veiledRec ·)) : Bool)) Tryz.prog 3 Tryz.f3 (OpenSpec.ofChange Rows.walkLedgersSpec).bare Rows.walkLedgersRow = true := by kernel_rfl
theorem c_goes : false = Rows.walkLedgersRow.goesBy Tryz.pinned.checked.prog := by kernel_rfl
end Go.Proofs.YtcpkjcpghmnklaaGreatDoor.walkLedgers
