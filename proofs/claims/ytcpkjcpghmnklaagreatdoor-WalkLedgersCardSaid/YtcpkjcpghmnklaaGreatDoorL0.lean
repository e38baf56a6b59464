/- What was gone through once: checked. -/
import Derived.Test.YtcpkjcpghmnklaaGreatDoorK

namespace Go.Proofs.Tz
open Go Go.AM
set_option maxRecDepth 100000
theorem Vm1_k : Vm1.chk ((evT E VT0 100000).call 15 Vm1.args false Vm1.st) = true := by kernel_rfl
theorem Vm1_ok : ∀ args σ vs, Vm1.run args σ = some vs → ∀ ρ w (cargs : Array Value), Rel E.gl ρ σ w → RepL ρ args cargs.toList → CallOk E Tryz.prog ρ σ w 15 cargs vs := fun _ _ _ hr _ _ _ hR ha => Memo.ok (evT_model VT0_ok) Vm1_k hr hR ha
theorem Vm3_k : Vm3.chk ((evT E VT0 100000).call 15 Vm3.args false Vm3.st) = true := by kernel_rfl
theorem Vm3_ok : ∀ args σ vs, Vm3.run args σ = some vs → ∀ ρ w (cargs : Array Value), Rel E.gl ρ σ w → RepL ρ args cargs.toList → CallOk E Tryz.prog ρ σ w 15 cargs vs := fun _ _ _ hr _ _ _ hR ha => Memo.ok (evT_model VT0_ok) Vm3_k hr hR ha
theorem Vm9_k : Vm9.chk ((evT E VT0 100000).call 16 Vm9.args false Vm9.st) = true := by kernel_rfl
theorem Vm9_ok : ∀ args σ vs, Vm9.run args σ = some vs → ∀ ρ w (cargs : Array Value), Rel E.gl ρ σ w → RepL ρ args cargs.toList → CallOk E Tryz.prog ρ σ w 16 cargs vs := fun _ _ _ hr _ _ _ hR ha => Memo.ok (evT_model VT0_ok) Vm9_k hr hR ha
theorem Vm13_k : Vm13.chk ((evT E VT0 100000).call 31 Vm13.args false Vm13.st) = true := by kernel_rfl
theorem Vm13_ok : ∀ args σ vs, Vm13.run args σ = some vs → ∀ ρ w (cargs : Array Value), Rel E.gl ρ σ w → RepL ρ args cargs.toList → CallOk E Tryz.prog ρ σ w 31 cargs vs := fun _ _ _ hr _ _ _ hR ha => Memo.ok (evT_model VT0_ok) Vm13_k hr hR ha

end Go.Proofs.Tz
