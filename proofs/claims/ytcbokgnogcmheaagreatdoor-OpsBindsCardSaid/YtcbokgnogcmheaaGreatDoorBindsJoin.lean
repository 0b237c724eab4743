/-
  OpsBinds: for every number and every two lists of values, values bound in two steps are as values bound at once, and more than the function has parameters is the trap arity. No condition beyond the form's own.
-/
import Derived.Test.YtcbokgnogcmheaaGreatDoorBindsFrame
import Derived.Test.YtcbokgnogcmheaaGreatDoorBinds2
namespace Go.Proofs.YtcbokgnogcmheaaGreatDoor

theorem opsBinds_card : Rows.OpsBindsCardSaid := BindsCard.card fun W p A B ca cb a b hA hB h1 h2 => binds_any W p A B ca cb a b hA hB h1 h2
#print axioms opsBinds_card
end Go.Proofs.YtcbokgnogcmheaaGreatDoor
