/- What was gone through once: checked. -/
import Derived.Test.YtcpkjcpghmnklaaGreatDoorI

namespace Go.Proofs.Tz
open Go Go.AM
set_option maxRecDepth 100000
theorem Vm6_k : Vm6.chk ((evT E T2 100000).call 102 Vm6.args false Vm6.st) = true := by kernel_rfl
theorem Vm6_ok : ∀ args σ vs, Vm6.run args σ = some vs → ∀ ρ w (cargs : Array Value), Rel E.gl ρ σ w → RepL ρ args cargs.toList → CallOk E Tryz.prog ρ σ w 102 cargs vs := fun _ _ _ hr _ _ _ hR ha => Memo.ok (evT_model T2_ok) Vm6_k hr hR ha
theorem Vm7_k : Vm7.chk ((evT E T2 100000).call 102 Vm7.args false Vm7.st) = true := by kernel_rfl
theorem Vm7_ok : ∀ args σ vs, Vm7.run args σ = some vs → ∀ ρ w (cargs : Array Value), Rel E.gl ρ σ w → RepL ρ args cargs.toList → CallOk E Tryz.prog ρ σ w 102 cargs vs := fun _ _ _ hr _ _ _ hR ha => Memo.ok (evT_model T2_ok) Vm7_k hr hR ha
theorem Vm8_k : Vm8.chk ((evT E T2 100000).call 102 Vm8.args false Vm8.st) = true := by kernel_rfl
theorem Vm8_ok : ∀ args σ vs, Vm8.run args σ = some vs → ∀ ρ w (cargs : Array Value), Rel E.gl ρ σ w → RepL ρ args cargs.toList → CallOk E Tryz.prog ρ σ w 102 cargs vs := fun _ _ _ hr _ _ _ hR ha => Memo.ok (evT_model T2_ok) Vm8_k hr hR ha
theorem Vm10_k : Vm10.chk ((evT E T2 100000).call 169 Vm10.args false Vm10.st) = true := by kernel_rfl
theorem Vm10_ok : ∀ args σ vs, Vm10.run args σ = some vs → ∀ ρ w (cargs : Array Value), Rel E.gl ρ σ w → RepL ρ args cargs.toList → CallOk E Tryz.prog ρ σ w 169 cargs vs := fun _ _ _ hr _ _ _ hR ha => Memo.ok (evT_model T2_ok) Vm10_k hr hR ha

end Go.Proofs.Tz
