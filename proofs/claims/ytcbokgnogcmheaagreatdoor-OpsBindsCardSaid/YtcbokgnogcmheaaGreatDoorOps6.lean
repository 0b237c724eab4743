/-
  EFFECT AT EVERY INSTRUCTION, joined; which opcodes ops applies.
-/
import Derived.Test.YtcbokgnogcmheaaGreatDoorOps5
namespace Go.Proofs.YtcbokgnogcmheaaGreatDoor
open Go.RowKit

theorem code_Effect (w : World) (op a : Int) (h1 : -9223372036854775808 ≤ op) (h2 : op ≤ 9223372036854775807) : Calls Tryz.prog 22 #[.agg #[.int .i64 op, .int .i64 a]] w fun e w' => e = .returned (.tuple #[.int .i64 (effTakes op a), .int .i64 (effGives op a), .bool (effOk op a)]) ∧ Below w.heap.size w w' := by
  obtain ⟨k1, k2, t1, t2, g1, g2, hm⟩ := rowAt_sure op
  have hro := fun W => code_rowOf W op h1 h2
  unfold effTakes effGives effOk
  generalize rowAt op = r at *
  obtain ⟨nm, k, t, g, m⟩ := r
  generalize decide (0 ≤ op ∧ op < 67) = ok at *
  simp only at k1 k2 t1 t2 g1 g2 hm
  cases ok with
  | false => simpa using Effect_off w op a nm k t g m hro k1 k2 t1 t2 g1 g2
  | true =>
    by_cases e1 : k = 1
    · have hm' : m = false := by cases m <;> simp_all
      subst hm' e1
      simpa [fitsK] using Effect_any_yes w op a nm 1 t g false rfl rfl hro k1 k2 t1 t2 g1 g2
    by_cases e7 : k = 7
    · have hm' : m = false := by cases m <;> simp_all
      subst hm' e7
      have hf : fitsK 7 a = (a == 8 || a == 16 || a == 32) := rfl
      cases h : fitsK 7 a with
      | true => simpa using Effect_width_yes w op a nm 7 t g false rfl rfl (hf ▸ h) hro k1 k2 t1 t2 g1 g2
      | false => simpa using Effect_width_no w op a nm 7 t g false rfl rfl (hf ▸ h) hro k1 k2 t1 t2 g1 g2
    by_cases e8 : k = 8
    · have hm' : m = false := by cases m <;> simp_all
      subst hm' e8
      have hf : fitsK 8 a = decide (1 ≤ a ∧ a ≤ 64) := rfl
      cases h : fitsK 8 a with
      | true => simpa using Effect_room_yes w op a nm 8 t g false rfl rfl (hf ▸ h) hro k1 k2 t1 t2 g1 g2
      | false => simpa using Effect_room_no w op a nm 8 t g false rfl rfl (hf ▸ h) hro k1 k2 t1 t2 g1 g2
    have hf : fitsK k a = decide (0 ≤ a ∧ a < boundK k) := by unfold fitsK boundK; rw [if_neg e1, if_neg e7, if_neg e8]
    cases h : fitsK k a with
    | true =>
      have h' := hf ▸ h
      have hb : boundK k ≤ 2000 := by unfold boundK; (repeat' split) <;> omega
      have ha : 0 ≤ a ∧ a ≤ 2000 := by have := of_decide_eq_true h'; omega
      simpa using Effect_below_yes w op a nm k t g m ⟨e1, e7, e8⟩ (fun _ => ha) h' hro k1 k2 t1 t2 g1 g2
    | false =>
      have h' := hf ▸ h
      by_cases hmm : m = true
      · subst hmm
        simpa using Effect_below_no w op a nm k t g true ⟨e1, e7, e8⟩ h' hro k1 k2 t1 t2 g1 g2
      · simpa using Effect_below_no w op a nm k t g m ⟨e1, e7, e8⟩ h' hro k1 k2 t1 t2 g1 g2

def appliesOp (op : Int) : Bool := decide ((12 ≤ op ∧ op ≤ 39) ∨ (46 ≤ op ∧ op ≤ 57) ∨ op = 62 ∨ op = 65 ∨ op = 66)
theorem ops_Applies (w : World) (op : Int) (b : Bool) (hb : appliesOp op = b) : Calls Tryz.prog 23 #[.int .i64 op] w fun e w' => e = .returned (.bool b) ∧ w = w' := by
  go_enter Tryz.func23, Tryz.ntmps23
  go_wp2
  all_goals go_ret
  all_goals refine ⟨congrArg (fun b => Ending.returned (Value.bool b)) ?_, rfl⟩
  all_goals try simp only [beq_iff_eq, beq_eq_false_iff_ne] at *
  all_goals rw [← hb]
  all_goals unfold appliesOp
  all_goals first
    | exact (decide_eq_true (by omega)).symm
    | exact (decide_eq_false (by omega)).symm
end Go.Proofs.YtcbokgnogcmheaaGreatDoor
