/-
  CLOSED FACTS of the function OpsBinds, each by the kernel's own run.
-/
import Derived.Test.YtcbokgnogcmheaaGreatDoorCards
import Derived.ProofKit
import Derived.JoinedOf
namespace Go.Proofs.YtcbokgnogcmheaaGreatDoor.Binds9

theorem fnamed : Tryz.pinned.checked.prog.funcNamed Rows.opsBindsRow.func = some 4 := by kernel_rfl
theorem inst : Tryz.f4.isInstance Tryz.pinned.checked.prog Rows.opsBindsRow.origin Rows.opsBindsRow.targs := (of_decide_eq_true (by kernel_rfl))
theorem wrap : Tryz.f4.isWrapper Tryz.pinned.checked.prog Rows.opsBindsRow.wrapper Rows.opsBindsRow.mainSum := by unfold Func.isWrapper; first | (rw [if_pos (by decide +kernel)]; kernel_rfl) | (rw [if_neg (by decide +kernel)]; exact ⟨rfl, rfl⟩)
theorem closed : joinedFacts Tryz.pinned.checked.prog 4 Tryz.f4 Rows.opsBindsSpec Rows.opsBindsRow = true := by kernel_rfl
end Go.Proofs.YtcbokgnogcmheaaGreatDoor.Binds9
