/-
  PLAIN LAWS ON TEXTS: what an index of texts says of a text that was added; the two halves of a text.
-/
import Derived.Test.YtcbokgnogcmheaaGreatDoorWorld
namespace Go.Proofs.YtcbokgnogcmheaaGreatDoor

theorem text_new (items : List ByteArray) (x : ByteArray) : textOf (addT items x) (4, ((addT items x).idxOf x : Nat)) = some x := by
  have hm : x ∈ addT items x := by
    unfold addT
    split
    · assumption
    · simp
  have hl := List.idxOf_lt_length_of_mem hm
  unfold textOf textAt
  rw [if_pos rfl]
  rw [if_pos (by omega), Int.toNat_natCast, List.getElem?_eq_getElem hl]
  simp
theorem text_old {items : List ByteArray} {i : Nat} {t : ByteArray} (h : textOf items (4, (i : Int)) = some t) (y : ByteArray) : textOf (addT items y) (4, (i : Int)) = some t := by
  have h' : items[i]? = some t := by
    have : textAt items i = some t := h
    unfold textAt at this
    rwa [if_pos (by omega), Int.toNat_natCast] at this
  unfold textOf textAt
  rw [if_pos rfl]
  rw [if_pos (by omega), Int.toNat_natCast]
  unfold addT
  split
  · exact h'
  · rw [List.getElem?_append_left (List.getElem?_eq_some_iff.1 h').1]
    exact h'
theorem first_idx {items : List ByteArray} {s : ByteArray} (h : items[0]? = some s) : items.idxOf s = 0 := by
  cases items with
  | nil => simp at h
  | cons y l => simp at h; subst h; simp
theorem first_same {items : List ByteArray} {s : ByteArray} (h : items[0]? = some s) : addT items s = items := by
  cases items with
  | nil => simp at h
  | cons y l => simp at h; subst h; simp [addT]
theorem halves (s : ByteArray) (n : Nat) : s.extract 0 n ++ s.extract n s.size = s := by
  apply ByteArray.ext
  simp [ByteArray.data_append, ByteArray.data_extract]
end Go.Proofs.YtcbokgnogcmheaaGreatDoor
