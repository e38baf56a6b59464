/- WalkLedgers: for every input the statement's function returns true, and each argument reads behind the call as it read before. Condition: the listed package variables hold what the program's text lays (the card ties them). -/
import Derived.Test.YtcpkjcpghmnklaaGreatDoorS
import Derived.Test.YtcpkjcpghmnklaaGreatDoorU0
import Derived.Test.YtcpkjcpghmnklaaGreatDoorU1
import Derived.Test.YtcpkjcpghmnklaaGreatDoorU2
import Derived.Test.YtcpkjcpghmnklaaGreatDoorU3

namespace Go.Proofs.YtcpkjcpghmnklaaGreatDoor.walkLedgers
open Go
set_option maxRecDepth 100000
theorem andI {a b : Bool} (h : a = true) (h' : b = true) : (a && b) = true := by rw [h, h']; rfl
theorem closed : joinedFacts Tryz.prog 3 Tryz.f3 (OpenSpec.ofChange Rows.walkLedgersSpec).bare Rows.walkLedgersRow = true :=
  (andI (andI (andI (andI (andI (andI (andI (andI (andI (andI (andI (andI (andI (andI (andI (andI (andI (andI (andI (andI (andI (andI (andI (andI (andI (andI (andI (andI (andI (andI (andI fact0 fact1) fact2) fact3) fact4) fact5) fact6) fact7) fact8) fact9) fact10) fact11) fact12) fact13) fact14) fact15) fact16) fact17) fact18) fact19) fact20) fact21) fact22) fact23) fact24) fact25) fact26) fact27) fact28) fact29) fact30) fact31)
theorem named : Tryz.prog.funcNamed "hayloft/hayloftlaw27.WalkLedgers" = some 3 := by kernel_rfl
theorem said : Rows.WalkLedgersSaid :=
  OpenClaim.holds_of_cond 3 Tryz.f3 rfl rfl rfl rfl rfl rfl rfl ⟨rfl, rfl, rfl, rfl, rfl⟩ rfl rfl rfl rfl rfl named Tryz.func3 closed
    (of_decide_eq_true (by kernel_rfl)) (by unfold Func.isWrapper; first | (rw [if_pos (by decide +kernel)]; kernel_rfl) | (rw [if_neg (by decide +kernel)]; exact ⟨rfl, rfl⟩))
    (fun os started H enc _ F => by rw [OpenClaim.pre_eq_preRow]; exact lifted os started H enc F)

theorem card : Rows.WalkLedgersCardSaid :=
  Claim7.holds_tied_plain_at .later [] _ _ _ _ said (fun _ h => by cases h) c_wf (fun _ h => by cases h) walkLedgers_row_tie rfl ⟨rfl, rfl⟩ c_main rfl plain c_goes
#print axioms card
end Go.Proofs.YtcpkjcpghmnklaaGreatDoor.walkLedgers
