/- What was gone through once: checked. -/
import Derived.Test.YtcpkjcpghmnklaaGreatDoorK

namespace Go.Proofs.Tz
open Go Go.AM
set_option maxRecDepth 100000
theorem Vm16_k : Vm16.chk ((evT E VT0 100000).call 31 Vm16.args false Vm16.st) = true := by kernel_rfl
theorem Vm16_ok : ∀ args σ vs, Vm16.run args σ = some vs → ∀ ρ w (cargs : Array Value), Rel E.gl ρ σ w → RepL ρ args cargs.toList → CallOk E Tryz.prog ρ σ w 31 cargs vs := fun _ _ _ hr _ _ _ hR ha => Memo.ok (evT_model VT0_ok) Vm16_k hr hR ha
theorem Vm19_k : Vm19.chk ((evT E VT0 100000).call 31 Vm19.args false Vm19.st) = true := by kernel_rfl
theorem Vm19_ok : ∀ args σ vs, Vm19.run args σ = some vs → ∀ ρ w (cargs : Array Value), Rel E.gl ρ σ w → RepL ρ args cargs.toList → CallOk E Tryz.prog ρ σ w 31 cargs vs := fun _ _ _ hr _ _ _ hR ha => Memo.ok (evT_model VT0_ok) Vm19_k hr hR ha
theorem Vm20_k : Vm20.chk ((evT E VT0 100000).call 31 Vm20.args false Vm20.st) = true := by kernel_rfl
theorem Vm20_ok : ∀ args σ vs, Vm20.run args σ = some vs → ∀ ρ w (cargs : Array Value), Rel E.gl ρ σ w → RepL ρ args cargs.toList → CallOk E Tryz.prog ρ σ w 31 cargs vs := fun _ _ _ hr _ _ _ hR ha => Memo.ok (evT_model VT0_ok) Vm20_k hr hR ha

end Go.Proofs.Tz
