/-
  OpsPieces: for every text and every number, a text is put together again out of its two pieces and is the very same number. No condition beyond the form's own.
-/
import Derived.Test.YtcbokgnogcmheaaGreatDoorPiecesFrame
import Derived.Test.YtcbokgnogcmheaaGreatDoorPieces2
namespace Go.Proofs.YtcbokgnogcmheaaGreatDoor

theorem opsPieces_card : Rows.OpsPiecesCardSaid := Pieces.card fun W s k hs h1 h2 _ => pieces_any W s k hs h1 h2
#print axioms opsPieces_card
end Go.Proofs.YtcbokgnogcmheaaGreatDoor
