/- What was gone through once: checked. -/
import Derived.Test.YtcpkjcpghmnklaaGreatDoorI

namespace Go.Proofs.Tz
open Go Go.AM
set_option maxRecDepth 100000
theorem Vm0_k : Vm0.chk ((evT E T2 100000).call 357 Vm0.args false Vm0.st) = true := by kernel_rfl
theorem Vm0_ok : ∀ args σ vs, Vm0.run args σ = some vs → ∀ ρ w (cargs : Array Value), Rel E.gl ρ σ w → RepL ρ args cargs.toList → CallOk E Tryz.prog ρ σ w 357 cargs vs := fun _ _ _ hr _ _ _ hR ha => Memo.ok (evT_model T2_ok) Vm0_k hr hR ha
theorem Vm2_k : Vm2.chk ((evT E T2 100000).call 357 Vm2.args false Vm2.st) = true := by kernel_rfl
theorem Vm2_ok : ∀ args σ vs, Vm2.run args σ = some vs → ∀ ρ w (cargs : Array Value), Rel E.gl ρ σ w → RepL ρ args cargs.toList → CallOk E Tryz.prog ρ σ w 357 cargs vs := fun _ _ _ hr _ _ _ hR ha => Memo.ok (evT_model T2_ok) Vm2_k hr hR ha
theorem Vm4_k : Vm4.chk ((evT E T2 100000).call 333 Vm4.args false Vm4.st) = true := by kernel_rfl
theorem Vm4_ok : ∀ args σ vs, Vm4.run args σ = some vs → ∀ ρ w (cargs : Array Value), Rel E.gl ρ σ w → RepL ρ args cargs.toList → CallOk E Tryz.prog ρ σ w 333 cargs vs := fun _ _ _ hr _ _ _ hR ha => Memo.ok (evT_model T2_ok) Vm4_k hr hR ha
theorem Vm5_k : Vm5.chk ((evT E T2 100000).call 169 Vm5.args false Vm5.st) = true := by kernel_rfl
theorem Vm5_ok : ∀ args σ vs, Vm5.run args σ = some vs → ∀ ρ w (cargs : Array Value), Rel E.gl ρ σ w → RepL ρ args cargs.toList → CallOk E Tryz.prog ρ σ w 169 cargs vs := fun _ _ _ hr _ _ _ hR ha => Memo.ok (evT_model T2_ok) Vm5_k hr hR ha

end Go.Proofs.Tz
