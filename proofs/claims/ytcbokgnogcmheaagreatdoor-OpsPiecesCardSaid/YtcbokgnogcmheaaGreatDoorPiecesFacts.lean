/-
  CLOSED FACTS of the function OpsPieces, each by the kernel's own run.
-/
import Derived.Test.YtcbokgnogcmheaaGreatDoorCards
import Derived.ProofKit
import Derived.JoinedOf
namespace Go.Proofs.YtcbokgnogcmheaaGreatDoor.Pieces2

theorem fnamed : Tryz.pinned.checked.prog.funcNamed Rows.opsPiecesRow.func = some 3 := by kernel_rfl
theorem inst : Tryz.f3.isInstance Tryz.pinned.checked.prog Rows.opsPiecesRow.origin Rows.opsPiecesRow.targs := (of_decide_eq_true (by kernel_rfl))
theorem wrap : Tryz.f3.isWrapper Tryz.pinned.checked.prog Rows.opsPiecesRow.wrapper Rows.opsPiecesRow.mainSum := by unfold Func.isWrapper; first | (rw [if_pos (by decide +kernel)]; kernel_rfl) | (rw [if_neg (by decide +kernel)]; exact ⟨rfl, rfl⟩)
theorem closed : joinedFacts Tryz.pinned.checked.prog 3 Tryz.f3 Rows.opsPiecesSpec Rows.opsPiecesRow = true := by kernel_rfl
end Go.Proofs.YtcbokgnogcmheaaGreatDoor.Pieces2
