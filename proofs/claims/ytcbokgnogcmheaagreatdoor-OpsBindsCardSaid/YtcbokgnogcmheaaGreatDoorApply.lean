/-
  APPLY: an instruction is checked, done and handed back.
-/
import Derived.Test.YtcbokgnogcmheaaGreatDoorDo
import Derived.StillTactics
namespace Go.Proofs.YtcbokgnogcmheaaGreatDoor
open Go.RowKit

section
variable {own : Nat → Nat} {w : World} {wb ab o n c : Nat} {cs fs : Value} {bud t sp : Int} {v : VV} {full : Bool} {items : List ByteArray} {ts : List Thing}

theorem Apply_yes (hT : Tidy own w) {op A : Int} (h1 : -9223372036854775808 ≤ op) (h2 : op ≤ 9223372036854775807) (hok : effOk op A = true) (happ : appliesOp op = true) (hn : effTakes op A = n)
    (H : ∀ W, Below w.heap.size w W → Calls Tryz.prog 24 #[.pointer (some ⟨wb, 0, none⟩), .agg #[.int .i64 op, .int .i64 A], .slice (some ⟨ab, o, none⟩) n c] W (Done own W wb cs fs bud v 0 false items sp ts)) :
    Calls Tryz.prog 9 #[.pointer (some ⟨wb, 0, none⟩), .agg #[.int .i64 op, .int .i64 A], .slice (some ⟨ab, o, none⟩) n c] w fun e w' => ∃ own', e = .returned (.tuple #[vg v, .int .i64 0, .bool true]) ∧ WAt own' w' wb cs fs items bud sp ts ∧ Stp own own' w w' := by
  have hE := fun W => code_Effect W op A h1 h2
  rw [hok, hn] at hE
  have hP := fun W => ops_Applies W op true happ
  have b2 : Below w.heap.size w ((w.alloc (.cells #[.int .i64 op, .int .i64 A] 44)).alloc (.cells #[.int .i64 0, .int .i64 0] 40)) := ((Below.refl _ _).alloc (Nat.le_refl _) _).alloc (by simp) _
  have hI2 := heap_alloc2_old w (.cells #[.int .i64 op, .int .i64 A] 44) (.cells #[.int .i64 0, .int .i64 0] 40)
  have hR2 := heap_alloc2_new w (.cells #[.int .i64 op, .int .i64 A] 44) (.cells #[.int .i64 0, .int .i64 0] 40)
  have hown1 : own (w.heap.size + 1) = 0 := hT _ (Nat.le_succ _)
  have hn2 : (n : Int) = n := rfl
  go_enter Tryz.func9, Tryz.ntmps9
  go_wp2_with (first
    | (go_at_call 22; go_loud (refine (hE _).mono ?_; rintro e w3 ⟨rfl, hb3⟩; have b3 := b2.trans (hb3.mono b2.size); have hI3 := below_blk hb3 (Nat.le_refl _) hI2; have hR3 := below_blk hb3 (Nat.le_refl _) hR2; obtain ⟨i0, i1, _, _⟩ := at2 hI3))
    | (go_at_call 23; go_loud (refine (hP _).mono ?_; rintro e w4 ⟨rfl, rfl⟩))
    | (go_at_call 24; go_loud (refine (H _ b3).mono ?_; rintro e w5 ⟨own5, rfl, hw5, st5⟩; unfold dn; have hR5 := st5.blk hR3 hown1; have hR6 := blk_alloc hR5 (.cells #[.int .i64 v.1, .int .i64 v.2, .int .i64 0, .bool false] 78); obtain ⟨d0, d1, g0, g1⟩ := at2 hR6)))
  have st := (Stp.of_below (own := own) b3 hT).trans st5
  exact ret_ctt rfl rfl (put2 hR6) Tryz.underlying40 rfl size_value rfl ⟨own5, rfl, fin_world hw5 st (Nat.le_succ _) (st5.own0 (lt_of_block hR3) hown1) (Fr.put2 ((Fr.refl _ _).alloc _) (.inl rfl))⟩
end
end Go.Proofs.YtcbokgnogcmheaaGreatDoor
