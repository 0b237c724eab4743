/-
  THE SMALL CALLS OF OPS: trap, value, number, whole, Pick, and the rows of the table of opcodes that this seat's laws reach.
-/
import Derived.Test.YtcbokgnogcmheaaGreatDoorHeap
namespace Go.Proofs.YtcbokgnogcmheaaGreatDoor
open Go.RowKit

/-- What an operation has done, as a value: the value, the trap, whether there was no room. -/
def dn (v : VV) (t : Int) (full : Bool) : Value := .agg #[.int .i64 v.1, .int .i64 v.2, .int .i64 t, .bool full]
def vg (v : VV) : Value := .agg #[.int .i64 v.1, .int .i64 v.2]
theorem size_done : (Tryz.prog.info? 78).map (·.size) = some 4 := by kernel_rfl
theorem size_value : (Tryz.prog.info? 40).map (·.size) = some 2 := by kernel_rfl
theorem size_row : (Tryz.prog.info? 97).map (·.size) = some 5 := by kernel_rfl

theorem ops_trap (w : World) (t : Int) : Calls Tryz.prog 71 #[.int .i64 t] w fun e w' => e = .returned (dn (0, 0) t false) ∧ Below w.heap.size w w' := by
  go_enter Tryz.func71, Tryz.ntmps71
  go_wp2
  exact ret_c rfl rfl (blk_new _ _) Tryz.underlying78 rfl size_done rfl ⟨rfl, (Below.refl _ _).alloc (Nat.le_refl _) _⟩

theorem ops_value (w : World) (v : VV) : Calls Tryz.prog 77 #[vg v] w fun e w' => e = .returned (dn v 0 false) ∧ Below w.heap.size w w' := by
  unfold vg
  go_enter Tryz.func77, Tryz.ntmps77
  go_wp2
  exact ret_c rfl rfl (heap_alloc2_new _ _ _) Tryz.underlying78 rfl size_done rfl ⟨rfl, ((Below.refl _ _).alloc (Nat.le_refl _) _).alloc (by simp) _⟩

theorem ops_number (w : World) (n : Int) : Calls Tryz.prog 74 #[.int .i64 n] w fun e w' => e = .returned (dn (2, n) 0 false) ∧ Below w.heap.size w w' := by
  go_enter Tryz.func74, Tryz.ntmps74
  go_wp2_with (go_at_call 77; go_loud (refine (ops_value _ (2, n)).mono ?_; rintro e w' ⟨rfl, hb⟩; unfold dn; have hR := below_blk hb (Nat.le_refl _) (blk_new _ _); obtain ⟨c0, c1, c2, c3, f0, f1, f2, f3⟩ := at4 hR))
  exact ret_c rfl rfl (put4 hR) Tryz.underlying78 rfl size_done rfl ⟨rfl, below_put4 (((Below.refl _ _).alloc (Nat.le_refl _) _).trans (hb.mono (by simp))) (Nat.le_refl _)⟩

theorem whole (w : World) (n : Int) : Calls Tryz.prog 10 #[.int .i64 n] w fun e w' => e = .returned (vg (2, n)) ∧ Below w.heap.size w w' := by
  go_enter Tryz.func10, Tryz.ntmps10
  go_wp2
  exact ret_c rfl rfl (blk_new _ _) Tryz.underlying40 rfl size_value rfl ⟨rfl, (Below.refl _ _).alloc (Nat.le_refl _) _⟩

theorem Pick (w : World) (k n : Int) (hn : 1 ≤ n) (hn2 : n ≤ 9223372036854775807) : Calls Tryz.prog 6 #[.int .i64 k, .int .i64 n] w fun e w' => ∃ r : Int, 0 ≤ r ∧ r < n ∧ e = .returned (.int .i64 r) ∧ w = w' := by
  have h1 := Int.lt_tmod_of_pos k (by omega : 0 < n)
  have h2 := Int.tmod_lt_of_pos k (by omega : 0 < n)
  go_enter Tryz.func6, Tryz.ntmps6
  go_wp2
  · go_ret
    exact ⟨_, by omega, by omega, rfl, rfl⟩
  · go_ret
    exact ⟨_, by omega, by omega, rfl, rfl⟩
end Go.Proofs.YtcbokgnogcmheaaGreatDoor
