/- What was gone through once: checked. -/
import Derived.Test.YtcpkjcpghmnklaaGreatDoorI

namespace Go.Proofs.Tz
open Go Go.AM
set_option maxRecDepth 100000
theorem Vm17_k : Vm17.chk ((evT E T2 100000).call 102 Vm17.args false Vm17.st) = true := by kernel_rfl
theorem Vm17_ok : ∀ args σ vs, Vm17.run args σ = some vs → ∀ ρ w (cargs : Array Value), Rel E.gl ρ σ w → RepL ρ args cargs.toList → CallOk E Tryz.prog ρ σ w 102 cargs vs := fun _ _ _ hr _ _ _ hR ha => Memo.ok (evT_model T2_ok) Vm17_k hr hR ha
theorem Vm18_k : Vm18.chk ((evT E T2 100000).call 102 Vm18.args false Vm18.st) = true := by kernel_rfl
theorem Vm18_ok : ∀ args σ vs, Vm18.run args σ = some vs → ∀ ρ w (cargs : Array Value), Rel E.gl ρ σ w → RepL ρ args cargs.toList → CallOk E Tryz.prog ρ σ w 102 cargs vs := fun _ _ _ hr _ _ _ hR ha => Memo.ok (evT_model T2_ok) Vm18_k hr hR ha

end Go.Proofs.Tz
