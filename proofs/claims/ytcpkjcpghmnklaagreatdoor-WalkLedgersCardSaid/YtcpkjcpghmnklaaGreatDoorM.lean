/- The contracts so far. -/
import Derived.Test.YtcpkjcpghmnklaaGreatDoorL0
import Derived.Test.YtcpkjcpghmnklaaGreatDoorL1
import Derived.Test.YtcpkjcpghmnklaaGreatDoorF
set_option linter.all false

/- The contracts so far. -/
namespace Go.Proofs.Tz
open Go Go.AM
set_option maxRecDepth 100000
theorem Vc1_15 : ∀ args σ vs, (memosC [Vm1, Vm3]).run args σ = some vs → ∀ ρ w (cargs : Array Value), Rel E.gl ρ σ w → RepL ρ args cargs.toList → CallOk E Tryz.prog ρ σ w 15 cargs vs :=
  memos_ok (List.forall_mem_cons.2 ⟨Vm1_ok, List.forall_mem_cons.2 ⟨Vm3_ok, (fun _ h => nomatch h)⟩⟩)
theorem Vc1_16 : ∀ args σ vs, (memosC [Vm9]).run args σ = some vs → ∀ ρ w (cargs : Array Value), Rel E.gl ρ σ w → RepL ρ args cargs.toList → CallOk E Tryz.prog ρ σ w 16 cargs vs :=
  memos_ok (List.forall_mem_cons.2 ⟨Vm9_ok, (fun _ h => nomatch h)⟩)
theorem Vc1_31 : ∀ args σ vs, (memosC [Vm13, Vm16, Vm19, Vm20]).run args σ = some vs → ∀ ρ w (cargs : Array Value), Rel E.gl ρ σ w → RepL ρ args cargs.toList → CallOk E Tryz.prog ρ σ w 31 cargs vs :=
  memos_ok (List.forall_mem_cons.2 ⟨Vm13_ok, List.forall_mem_cons.2 ⟨Vm16_ok, List.forall_mem_cons.2 ⟨Vm19_ok, List.forall_mem_cons.2 ⟨Vm20_ok, (fun _ h => nomatch h)⟩⟩⟩⟩)
noncomputable def VT1 : Tr Ctr := (((VT0.set 15 (some (memosC [Vm1, Vm3]))).set 16 (some (memosC [Vm9]))).set 31 (some (memosC [Vm13, Vm16, Vm19, Vm20])))
theorem VT1_ok : CtrOk E Tryz.prog VT1 := (CtrOk.set (CtrOk.set (CtrOk.set VT0_ok Vc1_15) Vc1_16) Vc1_31)

end Go.Proofs.Tz

/- What was gone through once: checked. -/
namespace Go.Proofs.Tz
open Go Go.AM
set_option maxRecDepth 100000
theorem Vm21_k : Vm21.chk ((evT E VT1 100000).call 14 Vm21.args false Vm21.st) = true := by kernel_rfl
theorem Vm21_ok : ∀ args σ vs, Vm21.run args σ = some vs → ∀ ρ w (cargs : Array Value), Rel E.gl ρ σ w → RepL ρ args cargs.toList → CallOk E Tryz.prog ρ σ w 14 cargs vs := fun _ _ _ hr _ _ _ hR ha => Memo.ok (evT_model VT1_ok) Vm21_k hr hR ha

end Go.Proofs.Tz

/- The contracts so far. -/
namespace Go.Proofs.Tz
open Go Go.AM
set_option maxRecDepth 100000
theorem Vc2_14 : ∀ args σ vs, (memosC [Vm21]).run args σ = some vs → ∀ ρ w (cargs : Array Value), Rel E.gl ρ σ w → RepL ρ args cargs.toList → CallOk E Tryz.prog ρ σ w 14 cargs vs :=
  memos_ok (List.forall_mem_cons.2 ⟨Vm21_ok, (fun _ h => nomatch h)⟩)
noncomputable def VT2 : Tr Ctr := (VT1.set 14 (some (memosC [Vm21])))
theorem VT2_ok : CtrOk E Tryz.prog VT2 := (CtrOk.set VT1_ok Vc2_14)

end Go.Proofs.Tz

/- What was gone through once: checked. -/
namespace Go.Proofs.Tz
open Go Go.AM
set_option maxRecDepth 100000
theorem Vm22_k : Vm22.chk ((evT E VT2 100000).call 4 Vm22.args false Vm22.st) = true := by kernel_rfl
theorem Vm22_ok : ∀ args σ vs, Vm22.run args σ = some vs → ∀ ρ w (cargs : Array Value), Rel E.gl ρ σ w → RepL ρ args cargs.toList → CallOk E Tryz.prog ρ σ w 4 cargs vs := fun _ _ _ hr _ _ _ hR ha => Memo.ok (evT_model VT2_ok) Vm22_k hr hR ha

end Go.Proofs.Tz

/- alive() of the walk's layer: true, at every memory that holds the three tables. -/
namespace Go.Proofs.Tz
open Go Go.AM
set_option maxRecDepth 100000
theorem alive_ctr : ∀ args σ vs, (relCtr (quietP Vm22)).run args σ = some vs → ∀ ρ w (cargs : Array Value), Rel E.gl ρ σ w → RepL ρ args cargs.toList → CallOk E Tryz.prog ρ σ w 4 cargs vs := by
  intro args σ vs hr ρ w cargs hR hc
  obtain ⟨rfl, h2, rfl⟩ := relCtr_run hr
  exact quiet_row (evT_model VT2_ok) Vm22_k (by kernel_rfl) (by kernel_rfl) (by kernel_rfl) (by decide) h2 hR hc
noncomputable def TA : Tr Ctr := Tr.nil.set 4 (some (relCtr (quietP Vm22)))
theorem TA_ok : CtrOk E Tryz.prog TA := CtrOk.nil.set alive_ctr
#print axioms TA_ok
end Go.Proofs.Tz
