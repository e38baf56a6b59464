/- The contracts so far. -/
import Derived.Test.YtcpkjcpghmnklaaGreatDoorJ0
import Derived.Test.YtcpkjcpghmnklaaGreatDoorJ1
import Derived.Test.YtcpkjcpghmnklaaGreatDoorJ2
import Derived.Test.YtcpkjcpghmnklaaGreatDoorJ3

namespace Go.Proofs.Tz
open Go Go.AM
set_option maxRecDepth 100000
theorem Vc0_102 : ∀ args σ vs, (memosC [Vm6, Vm7, Vm8, Vm11, Vm12, Vm14, Vm15, Vm17, Vm18]).run args σ = some vs → ∀ ρ w (cargs : Array Value), Rel E.gl ρ σ w → RepL ρ args cargs.toList → CallOk E Tryz.prog ρ σ w 102 cargs vs :=
  memos_ok (List.forall_mem_cons.2 ⟨Vm6_ok, List.forall_mem_cons.2 ⟨Vm7_ok, List.forall_mem_cons.2 ⟨Vm8_ok, List.forall_mem_cons.2 ⟨Vm11_ok, List.forall_mem_cons.2 ⟨Vm12_ok, List.forall_mem_cons.2 ⟨Vm14_ok, List.forall_mem_cons.2 ⟨Vm15_ok, List.forall_mem_cons.2 ⟨Vm17_ok, List.forall_mem_cons.2 ⟨Vm18_ok, (fun _ h => nomatch h)⟩⟩⟩⟩⟩⟩⟩⟩⟩)
theorem Vc0_357 : ∀ args σ vs, (memosC [Vm0, Vm2]).run args σ = some vs → ∀ ρ w (cargs : Array Value), Rel E.gl ρ σ w → RepL ρ args cargs.toList → CallOk E Tryz.prog ρ σ w 357 cargs vs :=
  memos_ok (List.forall_mem_cons.2 ⟨Vm0_ok, List.forall_mem_cons.2 ⟨Vm2_ok, (fun _ h => nomatch h)⟩⟩)
theorem Vc0_333 : ∀ args σ vs, (memosC [Vm4]).run args σ = some vs → ∀ ρ w (cargs : Array Value), Rel E.gl ρ σ w → RepL ρ args cargs.toList → CallOk E Tryz.prog ρ σ w 333 cargs vs :=
  memos_ok (List.forall_mem_cons.2 ⟨Vm4_ok, (fun _ h => nomatch h)⟩)
theorem Vc0_169 : ∀ args σ vs, (memosC [Vm5, Vm10]).run args σ = some vs → ∀ ρ w (cargs : Array Value), Rel E.gl ρ σ w → RepL ρ args cargs.toList → CallOk E Tryz.prog ρ σ w 169 cargs vs :=
  memos_ok (List.forall_mem_cons.2 ⟨Vm5_ok, List.forall_mem_cons.2 ⟨Vm10_ok, (fun _ h => nomatch h)⟩⟩)
noncomputable def VT0 : Tr Ctr := ((((T2.set 102 (some (memosC [Vm6, Vm7, Vm8, Vm11, Vm12, Vm14, Vm15, Vm17, Vm18]))).set 357 (some (memosC [Vm0, Vm2]))).set 333 (some (memosC [Vm4]))).set 169 (some (memosC [Vm5, Vm10])))
theorem VT0_ok : CtrOk E Tryz.prog VT0 := (CtrOk.set (CtrOk.set (CtrOk.set (CtrOk.set T2_ok Vc0_102) Vc0_357) Vc0_333) Vc0_169)

end Go.Proofs.Tz
