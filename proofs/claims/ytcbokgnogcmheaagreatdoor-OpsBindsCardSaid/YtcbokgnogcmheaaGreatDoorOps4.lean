/-
  THE FORMS OF OPERANDS (package code): formOf, what its last function says, and Effect at every instruction.
-/
import Derived.Test.YtcbokgnogcmheaaGreatDoorOps3
import Derived.Deep.RegionHeld3
namespace Go.Proofs.YtcbokgnogcmheaaGreatDoor
open Go.RowKit

/-- Does the number fit the kind of operand? -/
def fitsK (k a : Int) : Bool :=
  if k = 1 then true else if k = 7 then (a == 8 || a == 16 || a == 32) else if k = 8 then decide (1 ≤ a ∧ a ≤ 64)
  else decide (0 ≤ a ∧ a < (if k = 2 then 2000 else if k = 3 then 64 else if k = 4 then 512 else if k = 5 then 128 else if k = 6 then 64 else 1))
/-- Below what, for the kinds that are bounded above. -/
def boundK (k : Int) : Int := if k = 2 then 2000 else if k = 3 then 64 else if k = 4 then 512 else if k = 5 then 128 else if k = 6 then 64 else 1

theorem form_any (w : World) (a : Int) : Calls Tryz.prog 58 #[.int .i64 a] w fun e w' => e = .returned (.bool true) ∧ w = w' := by
  go_enter Tryz.func58, Tryz.ntmps58
  go_wp2
  go_ret
  exact ⟨rfl, rfl⟩
theorem form_width (w : World) (a : Int) : Calls Tryz.prog 60 #[.int .i64 a] w fun e w' => e = .returned (.bool (a == 8 || a == 16 || a == 32)) ∧ w = w' := by
  go_enter Tryz.func60, Tryz.ntmps60
  go_wp2
  all_goals go_ret
  · subst_vars; exact ⟨rfl, rfl⟩
  · subst_vars; exact ⟨rfl, rfl⟩
  · exact ⟨rfl, rfl⟩
theorem form_room (w : World) (a : Int) : Calls Tryz.prog 61 #[.int .i64 a] w fun e w' => e = .returned (.bool (decide (1 ≤ a ∧ a ≤ 64))) ∧ w = w' := by
  go_enter Tryz.func61, Tryz.ntmps61
  go_wp2
  all_goals go_ret
  · rename_i h; exact ⟨by simp [h], rfl⟩
  · rename_i h; exact ⟨by simp; omega, rfl⟩
theorem form_below (w : World) (a n : Int) (b : Nat) (hc : w.cell? ⟨b, 0, none⟩ = some (.int .i64 n)) : Calls Tryz.prog 104 #[.int .i64 a, .pointer (some ⟨b, 0, none⟩)] w fun e w' => e = .returned (.bool (decide (0 ≤ a ∧ a < n))) ∧ w = w' := by
  go_enter Tryz.func104, Tryz.ntmps104
  go_wp2
  all_goals go_ret
  · rename_i h; exact ⟨by simp [h], rfl⟩
  · rename_i h; exact ⟨by simp; omega, rfl⟩
theorem code_below (w : World) (n : Int) : Calls Tryz.prog 59 #[.int .i64 n] w fun e w' => e = .returned (.func (.func 104) #[] #[.pointer (some ⟨w.heap.size, 0, none⟩)]) ∧ w' = w.alloc (.cells #[.int .i64 n] 2) := by
  go_enter Tryz.func59, Tryz.ntmps59
  go_wp2
  go_ret
  exact ⟨rfl, rfl⟩

/-- The function of a form that says whether a number fits. -/
def FitFn (k : Int) (W : World) (f : Value) : Prop :=
  (k = 1 ∧ f = .func (.func 58) #[] #[]) ∨ (k = 7 ∧ f = .func (.func 60) #[] #[]) ∨ (k = 8 ∧ f = .func (.func 61) #[] #[]) ∨
  ((k ≠ 1 ∧ k ≠ 7 ∧ k ≠ 8) ∧ ∃ b, f = .func (.func 104) #[] #[.pointer (some ⟨b, 0, none⟩)] ∧ W.cell? ⟨b, 0, none⟩ = some (.int .i64 (boundK k)))
theorem cell_new3 (w : World) (A B : Obj) (v : Value) (t : TypeId) : (((w.alloc A).alloc B).alloc (.cells #[v] t)).cell? ⟨w.heap.size + 1 + 1, 0, none⟩ = some v := by
  have h := cell_of_blk (blk_new ((w.alloc A).alloc B) (.cells #[v] t)) 0
  simp only [World.size_alloc] at h
  exact h
theorem size_form : (Tryz.prog.info? 104).map (·.size) = some 3 := by kernel_rfl
set_option maxHeartbeats 2000000 in
theorem code_formOf (w : World) (k : Int) (hk : 0 ≤ k ∧ k ≤ 8) : Calls Tryz.prog 32 #[.int .u8 k] w fun e w' => ∃ f0 f1 f2, e = .returned (.agg #[f0, f1, f2]) ∧ FitFn k w' f2 ∧ Below w.heap.size w w' := by
  have hs1 : ∀ (w : World) (a : Addr) (f : Fn) (x y : Array Value), (store a (.func f x y)).run Tryz.prog w = stored Tryz.prog w a (.func f x y) .plain := fun w a f x y => run_store _ w a _ _ rfl
  have hs2 : ∀ (w : World) (a : Addr), (store a .nilFunc).run Tryz.prog w = stored Tryz.prog w a .nilFunc .plain := fun w a => run_store _ w a _ _ rfl
  have hk : k = 0 ∨ k = 1 ∨ k = 2 ∨ k = 3 ∨ k = 4 ∨ k = 5 ∨ k = 6 ∨ k = 7 ∨ k = 8 := by omega
  rcases hk with rfl | rfl | rfl | rfl | rfl | rfl | rfl | rfl | rfl
  all_goals go_enter Tryz.func32, Tryz.ntmps32
  all_goals go_wp2
  all_goals first
    | refine ret_c rfl rfl (blk_alloc (blk_alloc (blk_new _ _) _) _) Tryz.underlying104 rfl size_form rfl ⟨_, _, _, rfl, ?_, (((Below.refl _ _).alloc (Nat.le_refl _) _).alloc (by simp) _).alloc (by simp; omega) _⟩
    | refine ret_c rfl rfl (blk_alloc (blk_new _ _) _) Tryz.underlying104 rfl size_form rfl ⟨_, _, _, rfl, ?_, ((Below.refl _ _).alloc (Nat.le_refl _) _).alloc (by simp) _⟩
  · exact .inr (.inr (.inr ⟨by decide, _, rfl, cell_new3 _ _ _ _ _⟩))
  · exact .inl ⟨rfl, rfl⟩
  · exact .inr (.inr (.inr ⟨by decide, _, rfl, cell_new3 _ _ _ _ _⟩))
  · exact .inr (.inr (.inr ⟨by decide, _, rfl, cell_new3 _ _ _ _ _⟩))
  · exact .inr (.inr (.inr ⟨by decide, _, rfl, cell_new3 _ _ _ _ _⟩))
  · exact .inr (.inr (.inr ⟨by decide, _, rfl, cell_new3 _ _ _ _ _⟩))
  · exact .inr (.inr (.inr ⟨by decide, _, rfl, cell_new3 _ _ _ _ _⟩))
  · exact .inr (.inl ⟨rfl, rfl⟩)
  · exact .inr (.inr (.inl ⟨rfl, rfl⟩))
end Go.Proofs.YtcbokgnogcmheaaGreatDoor
