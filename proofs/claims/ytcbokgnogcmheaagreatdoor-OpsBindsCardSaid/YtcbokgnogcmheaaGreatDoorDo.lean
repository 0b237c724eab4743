/-
  ONE INSTRUCTION AT WORK: do hands on to its part, Apply checks and hands back. Both told over any contract of the part.
-/
import Derived.Test.YtcbokgnogcmheaaGreatDoorTexts
import Derived.BigQuiet
namespace Go.Proofs.YtcbokgnogcmheaaGreatDoor
open Go.RowKit

/-- What a part of ops leaves. -/
def Done (own : Nat → Nat) (w : World) (wb : Nat) (cs fs : Value) (bud : Int) (v : VV) (t : Int) (full : Bool) (items : List ByteArray) (sp : Int) (ts : List Thing) (e : Ending) (w' : World) : Prop :=
  ∃ own', e = .returned (dn v t full) ∧ WAt own' w' wb cs fs items bud sp ts ∧ Stp own own' w w'

section
variable {own : Nat → Nat} {w : World} {wb ab o n c : Nat} {cs fs : Value} {bud t sp : Int} {v : VV} {full : Bool} {items : List ByteArray} {ts : List Thing}

theorem do_texts (hT : Tidy own w) {op : Int} (hop : op = 38 ∨ op = 39) (A : Int)
    (H : ∀ W, Below w.heap.size w W → Calls Tryz.prog 35 #[.pointer (some ⟨wb, 0, none⟩), .int .i64 op, .slice (some ⟨ab, o, none⟩) n c] W (Done own W wb cs fs bud v t full items sp ts)) :
    Calls Tryz.prog 24 #[.pointer (some ⟨wb, 0, none⟩), .agg #[.int .i64 op, .int .i64 A], .slice (some ⟨ab, o, none⟩) n c] w (Done own w wb cs fs bud v t full items sp ts) := by
  have b2 : Below w.heap.size w ((w.alloc (.cells #[.int .i64 op, .int .i64 A] 44)).alloc (.cells #[.int .i64 0, .int .i64 0, .int .i64 0, .bool false] 78)) := ((Below.refl _ _).alloc (Nat.le_refl _) _).alloc (by simp) _
  have H2 := H _ b2
  have hR2 := heap_alloc2_new w (.cells #[.int .i64 op, .int .i64 A] 44) (.cells #[.int .i64 0, .int .i64 0, .int .i64 0, .bool false] 78)
  have hown1 : own (w.heap.size + 1) = 0 := hT _ (Nat.le_succ _)
  clear H
  rcases hop with rfl | rfl
  all_goals go_enter Tryz.func24, Tryz.ntmps24
  all_goals go_wp2_with (go_at_call 35; go_loud (refine H2.mono ?_; rintro e w5 ⟨own5, rfl, hw5, st5⟩; unfold dn; have hR5 := st5.blk hR2 hown1; obtain ⟨d0, d1, d2, d3, g0, g1, g2, g3⟩ := at4 hR5))
  all_goals exact ret_c rfl rfl (put4 hR5) Tryz.underlying78 rfl size_done rfl ⟨own5, rfl, fin_world hw5 ((Stp.of_below b2 hT).trans st5) (Nat.le_succ _) (st5.own0 (lt_of_block hR2) hown1) (Fr.put4 (Fr.refl _ _) (.inl rfl))⟩

theorem do_inside (hT : Tidy own w) {op : Int} (hop : op = 52) (A : Int)
    (H : ∀ W, Below w.heap.size w W → Calls Tryz.prog 42 #[.pointer (some ⟨wb, 0, none⟩), .int .i64 op, .slice (some ⟨ab, o, none⟩) n c] W (Done own W wb cs fs bud v t full items sp ts)) :
    Calls Tryz.prog 24 #[.pointer (some ⟨wb, 0, none⟩), .agg #[.int .i64 op, .int .i64 A], .slice (some ⟨ab, o, none⟩) n c] w (Done own w wb cs fs bud v t full items sp ts) := by
  have b2 : Below w.heap.size w ((w.alloc (.cells #[.int .i64 op, .int .i64 A] 44)).alloc (.cells #[.int .i64 0, .int .i64 0, .int .i64 0, .bool false] 78)) := ((Below.refl _ _).alloc (Nat.le_refl _) _).alloc (by simp) _
  have H2 := H _ b2
  have hR2 := heap_alloc2_new w (.cells #[.int .i64 op, .int .i64 A] 44) (.cells #[.int .i64 0, .int .i64 0, .int .i64 0, .bool false] 78)
  have hown1 : own (w.heap.size + 1) = 0 := hT _ (Nat.le_succ _)
  clear H
  rcases hop with rfl
  all_goals go_enter Tryz.func24, Tryz.ntmps24
  all_goals go_wp2_with (go_at_call 42; go_loud (refine H2.mono ?_; rintro e w5 ⟨own5, rfl, hw5, st5⟩; unfold dn; have hR5 := st5.blk hR2 hown1; obtain ⟨d0, d1, d2, d3, g0, g1, g2, g3⟩ := at4 hR5))
  all_goals exact ret_c rfl rfl (put4 hR5) Tryz.underlying78 rfl size_done rfl ⟨own5, rfl, fin_world hw5 ((Stp.of_below b2 hT).trans st5) (Nat.le_succ _) (st5.own0 (lt_of_block hR2) hown1) (Fr.put4 (Fr.refl _ _) (.inl rfl))⟩
end
end Go.Proofs.YtcbokgnogcmheaaGreatDoor
