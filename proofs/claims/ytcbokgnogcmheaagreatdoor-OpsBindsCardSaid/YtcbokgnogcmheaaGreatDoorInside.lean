/-
  THE LENGTH OF A TEXT (op 52), by inside.
-/
import Derived.Test.YtcbokgnogcmheaaGreatDoorDo
namespace Go.Proofs.YtcbokgnogcmheaaGreatDoor
open Go.RowKit

section
variable {own : Nat → Nat} {w : World} {wb ab o n c : Nat} {cs fs : Value} {bud sp : Int} {items : List ByteArray} {ts : List Thing}
theorem inside_len (h : WAt own w wb cs fs items bud sp ts) {a : VV} (hA : ArgsAt w ab o [a]) (hn : 1 ≤ n) {s : ByteArray} (ha : textOf items a = some s) :
    Calls Tryz.prog 42 #[.pointer (some ⟨wb, 0, none⟩), .int .i64 52, .slice (some ⟨ab, o, none⟩) n c] w (Done own w wb cs fs bud (2, s.size) 0 false items sp ts) := by
  have hT := h.tidy
  have b1 : Below w.heap.size w (w.alloc (.cells #[.int .i64 0, .int .i64 0, .int .i64 0, .bool false] 78)) := (Below.refl _ _).alloc (Nat.le_refl _) _
  have hA1 := hA.below b1
  obtain ⟨a0, a1⟩ := hA1.at0
  have b2 : Below w.heap.size w ((w.alloc (.cells #[.int .i64 0, .int .i64 0, .int .i64 0, .bool false] 78)).alloc (.cells #[.int .i64 a.1, .int .i64 a.2] 40)) := b1.alloc (by simp) _
  have hw2 := h.below b2
  have hR2 := heap_alloc2_old w (.cells #[.int .i64 0, .int .i64 0, .int .i64 0, .bool false] 78) (.cells #[.int .i64 a.1, .int .i64 a.2] 40)
  have n0 : (0 : Int) < n := by omega
  go_enter Tryz.func42, Tryz.ntmps42
  go_wp2_with (first
    | (go_at_call 70; go_loud (refine (World_text hw2 a).mono ?_; rintro e w3 ⟨rfl, hb3⟩; simp only [ha, Option.getD_some, Option.isSome_some]; have hR3 := below_blk hb3 (Nat.le_refl _) hR2))
    | (go_at_call 74; go_loud (refine (ops_number _ _).mono ?_; rintro e w4 ⟨rfl, hb4⟩; unfold dn; have hR4 := below_blk hb4 (Nat.le_refl _) hR3; obtain ⟨d0, d1, d2, d3, g0, g1, g2, g3⟩ := at4 hR4)))
  have b4 := b2.trans ((hb3.mono b2.size).trans (hb4.mono (Nat.le_trans b2.size hb3.size)))
  exact ret_c rfl rfl (put4 hR4) Tryz.underlying78 rfl size_done rfl ⟨own, rfl, fin_world (h.below b4) (Stp.of_below b4 hT) (Nat.le_refl _) (hT _ (Nat.le_refl _)) (Fr.put4 (Fr.refl _ _) (.inl rfl))⟩
end
end Go.Proofs.YtcbokgnogcmheaaGreatDoor
