/- What was gone through once: checked. -/
import Derived.Test.YtcpkjcpghmnklaaGreatDoorI

namespace Go.Proofs.Tz
open Go Go.AM
set_option maxRecDepth 100000
theorem Vm11_k : Vm11.chk ((evT E T2 100000).call 102 Vm11.args false Vm11.st) = true := by kernel_rfl
theorem Vm11_ok : ∀ args σ vs, Vm11.run args σ = some vs → ∀ ρ w (cargs : Array Value), Rel E.gl ρ σ w → RepL ρ args cargs.toList → CallOk E Tryz.prog ρ σ w 102 cargs vs := fun _ _ _ hr _ _ _ hR ha => Memo.ok (evT_model T2_ok) Vm11_k hr hR ha
theorem Vm12_k : Vm12.chk ((evT E T2 100000).call 102 Vm12.args false Vm12.st) = true := by kernel_rfl
theorem Vm12_ok : ∀ args σ vs, Vm12.run args σ = some vs → ∀ ρ w (cargs : Array Value), Rel E.gl ρ σ w → RepL ρ args cargs.toList → CallOk E Tryz.prog ρ σ w 102 cargs vs := fun _ _ _ hr _ _ _ hR ha => Memo.ok (evT_model T2_ok) Vm12_k hr hR ha
theorem Vm14_k : Vm14.chk ((evT E T2 100000).call 102 Vm14.args false Vm14.st) = true := by kernel_rfl
theorem Vm14_ok : ∀ args σ vs, Vm14.run args σ = some vs → ∀ ρ w (cargs : Array Value), Rel E.gl ρ σ w → RepL ρ args cargs.toList → CallOk E Tryz.prog ρ σ w 102 cargs vs := fun _ _ _ hr _ _ _ hR ha => Memo.ok (evT_model T2_ok) Vm14_k hr hR ha
theorem Vm15_k : Vm15.chk ((evT E T2 100000).call 102 Vm15.args false Vm15.st) = true := by kernel_rfl
theorem Vm15_ok : ∀ args σ vs, Vm15.run args σ = some vs → ∀ ρ w (cargs : Array Value), Rel E.gl ρ σ w → RepL ρ args cargs.toList → CallOk E Tryz.prog ρ σ w 102 cargs vs := fun _ _ _ hr _ _ _ hR ha => Memo.ok (evT_model T2_ok) Vm15_k hr hR ha

end Go.Proofs.Tz
