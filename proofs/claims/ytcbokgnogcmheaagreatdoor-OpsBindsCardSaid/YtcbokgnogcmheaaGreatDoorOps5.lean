/-
  WHAT AN INSTRUCTION TAKES AND GIVES (code.Effect), at every instruction.
-/
import Derived.Test.YtcbokgnogcmheaaGreatDoorOps4
namespace Go.Proofs.YtcbokgnogcmheaaGreatDoor
open Go.RowKit
set_option linter.unusedVariables false

theorem rowAt_sure (op : Int) : 0 ≤ (rowAt op).kind ∧ (rowAt op).kind ≤ 8 ∧ 0 ≤ (rowAt op).takes ∧ (rowAt op).takes ≤ 3 ∧ 0 ≤ (rowAt op).gives ∧ (rowAt op).gives ≤ 2 ∧ ((rowAt op).more = true → (rowAt op).kind = 6) := by
  have h : ∀ r ∈ noRow :: opRows, 0 ≤ r.kind ∧ r.kind ≤ 8 ∧ 0 ≤ r.takes ∧ r.takes ≤ 3 ∧ 0 ≤ r.gives ∧ r.gives ≤ 2 ∧ (r.more = true → r.kind = 6) := by decide +kernel
  apply h
  unfold rowAt
  split
  · rename_i ho
    have : op.toNat < opRows.length := by rw [rows_length]; omega
    rw [List.getD_eq_getElem?_getD, List.getElem?_eq_getElem this]
    exact List.mem_cons_of_mem _ (List.getElem_mem _)
  · exact List.mem_cons_self
def effOk (op a : Int) : Bool := decide (0 ≤ op ∧ op < 67) && fitsK (rowAt op).kind a
def effTakes (op a : Int) : Int := if effOk op a then (rowAt op).takes + (if (rowAt op).more then a else 0) else 0
def effGives (op a : Int) : Int := if effOk op a then (rowAt op).gives else 0

theorem field_right (w : World) (f0 f1 f2 : Value) : (Instr.field 104 (.agg #[f0, f1, f2]) 2).run Tryz.prog w = .ok f2 w := by
  simp [Instr.field, asAgg, go_sem]
/-- What the region of Effect holds on to: the row's block, the instruction's. -/
structure EffS (w : World) (B1 B2 : Nat) (r : OpRow) (op a : Int) (W : World) : Prop where
  row : W.heap[B1]? = some (.cells (rowCells r).toArray 97 (0, 0))
  ins : W.heap[B2]? = some (.cells #[.int .i64 op, .int .i64 a] 44 (0, 0))
  low : Below w.heap.size w W
theorem EffS.below {w W W' : World} {B1 B2 : Nat} {r : OpRow} {op a : Int} (h : EffS w B1 B2 r op a W) (hb : Below W.heap.size W W') : EffS w B1 B2 r op a W' :=
  ⟨below_blk hb (Nat.le_refl _) h.row, below_blk hb (Nat.le_refl _) h.ins, h.low.trans (hb.mono h.low.size)⟩
theorem EffS.all {w W : World} {B1 B2 : Nat} {r : OpRow} {op a : Int} (h : EffS w B1 B2 r op a W) : W.cell? ⟨B1, 1, none⟩ = some (.int .u8 r.kind) ∧ W.cell? ⟨B2, 1, none⟩ = some (.int .i64 a) ∧ EffS w B1 B2 r op a W :=
  ⟨cell_of_blk h.row 1, cell_of_blk h.ins 1, h⟩
theorem EffS.keep {w W W' : World} {B1 B2 : Nat} {r : OpRow} {op a : Int} (h : W.cell? ⟨B1, 1, none⟩ = some (.int .u8 r.kind) ∧ W.cell? ⟨B2, 1, none⟩ = some (.int .i64 a) ∧ EffS w B1 B2 r op a W) (hb : Below W.heap.size W W') :
    W'.cell? ⟨B1, 1, none⟩ = some (.int .u8 r.kind) ∧ W'.cell? ⟨B2, 1, none⟩ = some (.int .i64 a) ∧ EffS w B1 B2 r op a W' := (h.2.2.below hb).all
theorem EffS.make {w w' : World} {op a : Int} {r : OpRow} (hb : Below (w.alloc (.cells #[.int .i64 op, .int .i64 a] 44)).heap.size (w.alloc (.cells #[.int .i64 op, .int .i64 a] 44)) w') :
    EffS w w'.heap.size w.heap.size r op a (w'.alloc (.cells (rowCells r).toArray 97)) :=
  have hs := hb.size
  ⟨blk_new _ _, blk_alloc (below_blk hb (Nat.le_refl _) (blk_new _ _)) _, (((Below.refl _ _).alloc (Nat.le_refl _) _).trans (hb.mono (by simp))).alloc (by simp at hs; omega) _⟩

theorem Effect_off (w : World) (op a : Int) (nm : ByteArray) (k t g : Int) (m : Bool) (hro : ∀ W, Calls Tryz.prog 31 #[.int .i64 op] W fun e w' => e = .returned (.tuple #[.agg (rowCells ⟨nm, k, t, g, m⟩).toArray, .bool false]) ∧ Below W.heap.size W w') (k1 : 0 ≤ k) (k2 : k ≤ 8) (t1 : 0 ≤ t) (t2 : t ≤ 3) (g1 : 0 ≤ g) (g2 : g ≤ 2) :
    Calls Tryz.prog 22 #[.agg #[.int .i64 op, .int .i64 a]] w fun e w' => e = .returned (.tuple #[.int .i64 (0), .int .i64 0, .bool false]) ∧ Below w.heap.size w w' := by
  go_enter Tryz.func22, Tryz.ntmps22
  go_wp2_with (go_at_call 31; go_loud (refine (hro _).mono ?_; rintro e w' ⟨rfl, hb⟩; simp only [rowCells]))
  go_quiet (fail)
  go_wp2
  go_ret3
  exact ⟨rfl, below_drewN ((((Below.refl _ _).alloc (Nat.le_refl _) _).trans (hb.mono (by simp))).alloc (by have := hb.size; simp at this; omega) _) _⟩

theorem FitFn_below {k : Int} {W : World} {f : Value} (hk : k ≠ 1 ∧ k ≠ 7 ∧ k ≠ 8) (hf : FitFn k W f) : ∃ b, f = .func (.func 104) #[] #[.pointer (some ⟨b, 0, none⟩)] ∧ W.cell? ⟨b, 0, none⟩ = some (.int .i64 (boundK k)) := by
  rcases hf with h | h | h | h
  · exact absurd h.1 hk.1
  · exact absurd h.1 hk.2.1
  · exact absurd h.1 hk.2.2
  · exact h.2
theorem Effect_any_yes (w : World) (op a : Int) (nm : ByteArray) (k t g : Int) (m : Bool) (hk : k = 1) (hm : m = false) (hro : ∀ W, Calls Tryz.prog 31 #[.int .i64 op] W fun e w' => e = .returned (.tuple #[.agg (rowCells ⟨nm, k, t, g, m⟩).toArray, .bool true]) ∧ Below W.heap.size W w') (k1 : 0 ≤ k) (k2 : k ≤ 8) (t1 : 0 ≤ t) (t2 : t ≤ 3) (g1 : 0 ≤ g) (g2 : g ≤ 2) :
    Calls Tryz.prog 22 #[.agg #[.int .i64 op, .int .i64 a]] w fun e w' => e = .returned (.tuple #[.int .i64 (t + (if m then a else 0)), .int .i64 g, .bool true]) ∧ Below w.heap.size w w' := by
  subst hk
  subst hm
  go_enter Tryz.func22, Tryz.ntmps22
  go_wp2_with (go_at_call 31; go_loud (refine (hro _).mono ?_; rintro e w' ⟨rfl, hb⟩; simp only [rowCells]))
  have hS0 : EffS w w'.heap.size w.heap.size ⟨nm, 1, t, g, false⟩ op a (w'.alloc (.cells #[.string nm, .int .u8 1, .int .u8 t, .int .u8 g, .bool false] 97)) := EffS.make hb
  have hfr := field_right
  have hform : ∀ W, Calls Tryz.prog 58 #[.int .i64 a] W fun e w' => e = .returned (.bool true) ∧ W = w' := fun W => by
    have hc := form_any W a
    exact hc
  go_region_held3 (fun W => W.cell? ⟨w'.heap.size, 1, none⟩ = some (.int .u8 1) ∧ W.cell? ⟨w.heap.size, 1, none⟩ = some (.int .i64 a) ∧ EffS w w'.heap.size w.heap.size ⟨nm, 1, t, g, false⟩ op a W)
    (first | exact EffS.all (hS0.below (Below.refl _ _).drew) | exact EffS.keep (r := ⟨nm, 1, t, g, false⟩) (op := op) (a := a) (by assumption) (by assumption) | assumption)
    (first
      | (go_at_call 32; (refine (code_formOf _ 1 (by decide)).mono ?_; rintro e w1 ⟨f0, f1, f2, rfl, hf, hb1⟩; obtain rfl : f2 = .func (.func 58) #[] #[] := by (rcases hf with h | h | h | h <;> simp at h; exact h)))
      | (go_at_call 58; (refine (hform _).mono ?_; rintro e w2 ⟨rfl, rfl⟩)))
  have hS1 := (hS0.below (Below.refl _ _).drew).below hb1
  have r2 : w1.cell? ⟨w'.heap.size, 2, none⟩ = some (.int .u8 t) := cell_of_blk hS1.row 2
  have r3 : w1.cell? ⟨w'.heap.size, 3, none⟩ = some (.int .u8 g) := cell_of_blk hS1.row 3
  have r4 : w1.cell? ⟨w'.heap.size, 4, none⟩ = some (.bool false) := cell_of_blk hS1.row 4
  have i1 : w1.cell? ⟨w.heap.size, 1, none⟩ = some (.int .i64 a) := cell_of_blk hS1.ins 1
  go_wp2
  go_quiet (fail)
  go_wp2
  go_ret3
  exact ⟨by simp, below_drewN hS1.low _⟩

theorem Effect_width_yes (w : World) (op a : Int) (nm : ByteArray) (k t g : Int) (m : Bool) (hk : k = 7) (hm : m = false) (hfit : (a == 8 || a == 16 || a == 32) = true) (hro : ∀ W, Calls Tryz.prog 31 #[.int .i64 op] W fun e w' => e = .returned (.tuple #[.agg (rowCells ⟨nm, k, t, g, m⟩).toArray, .bool true]) ∧ Below W.heap.size W w') (k1 : 0 ≤ k) (k2 : k ≤ 8) (t1 : 0 ≤ t) (t2 : t ≤ 3) (g1 : 0 ≤ g) (g2 : g ≤ 2) :
    Calls Tryz.prog 22 #[.agg #[.int .i64 op, .int .i64 a]] w fun e w' => e = .returned (.tuple #[.int .i64 (t + (if m then a else 0)), .int .i64 g, .bool true]) ∧ Below w.heap.size w w' := by
  subst hk
  subst hm
  go_enter Tryz.func22, Tryz.ntmps22
  go_wp2_with (go_at_call 31; go_loud (refine (hro _).mono ?_; rintro e w' ⟨rfl, hb⟩; simp only [rowCells]))
  have hS0 : EffS w w'.heap.size w.heap.size ⟨nm, 7, t, g, false⟩ op a (w'.alloc (.cells #[.string nm, .int .u8 7, .int .u8 t, .int .u8 g, .bool false] 97)) := EffS.make hb
  have hfr := field_right
  have hform : ∀ W, Calls Tryz.prog 60 #[.int .i64 a] W fun e w' => e = .returned (.bool true) ∧ W = w' := fun W => by
    have hc := form_width W a
    rw [hfit] at hc
    exact hc
  go_region_held3 (fun W => W.cell? ⟨w'.heap.size, 1, none⟩ = some (.int .u8 7) ∧ W.cell? ⟨w.heap.size, 1, none⟩ = some (.int .i64 a) ∧ EffS w w'.heap.size w.heap.size ⟨nm, 7, t, g, false⟩ op a W)
    (first | exact EffS.all (hS0.below (Below.refl _ _).drew) | exact EffS.keep (r := ⟨nm, 7, t, g, false⟩) (op := op) (a := a) (by assumption) (by assumption) | assumption)
    (first
      | (go_at_call 32; (refine (code_formOf _ 7 (by decide)).mono ?_; rintro e w1 ⟨f0, f1, f2, rfl, hf, hb1⟩; obtain rfl : f2 = .func (.func 60) #[] #[] := by (rcases hf with h | h | h | h <;> simp at h; exact h)))
      | (go_at_call 60; (refine (hform _).mono ?_; rintro e w2 ⟨rfl, rfl⟩)))
  have hS1 := (hS0.below (Below.refl _ _).drew).below hb1
  have r2 : w1.cell? ⟨w'.heap.size, 2, none⟩ = some (.int .u8 t) := cell_of_blk hS1.row 2
  have r3 : w1.cell? ⟨w'.heap.size, 3, none⟩ = some (.int .u8 g) := cell_of_blk hS1.row 3
  have r4 : w1.cell? ⟨w'.heap.size, 4, none⟩ = some (.bool false) := cell_of_blk hS1.row 4
  have i1 : w1.cell? ⟨w.heap.size, 1, none⟩ = some (.int .i64 a) := cell_of_blk hS1.ins 1
  go_wp2
  go_quiet (fail)
  go_wp2
  go_ret3
  exact ⟨by simp, below_drewN hS1.low _⟩

theorem Effect_width_no (w : World) (op a : Int) (nm : ByteArray) (k t g : Int) (m : Bool) (hk : k = 7) (hm : m = false) (hfit : (a == 8 || a == 16 || a == 32) = false) (hro : ∀ W, Calls Tryz.prog 31 #[.int .i64 op] W fun e w' => e = .returned (.tuple #[.agg (rowCells ⟨nm, k, t, g, m⟩).toArray, .bool true]) ∧ Below W.heap.size W w') (k1 : 0 ≤ k) (k2 : k ≤ 8) (t1 : 0 ≤ t) (t2 : t ≤ 3) (g1 : 0 ≤ g) (g2 : g ≤ 2) :
    Calls Tryz.prog 22 #[.agg #[.int .i64 op, .int .i64 a]] w fun e w' => e = .returned (.tuple #[.int .i64 (0), .int .i64 0, .bool false]) ∧ Below w.heap.size w w' := by
  subst hk
  subst hm
  go_enter Tryz.func22, Tryz.ntmps22
  go_wp2_with (go_at_call 31; go_loud (refine (hro _).mono ?_; rintro e w' ⟨rfl, hb⟩; simp only [rowCells]))
  have hS0 : EffS w w'.heap.size w.heap.size ⟨nm, 7, t, g, false⟩ op a (w'.alloc (.cells #[.string nm, .int .u8 7, .int .u8 t, .int .u8 g, .bool false] 97)) := EffS.make hb
  have hfr := field_right
  have hform : ∀ W, Calls Tryz.prog 60 #[.int .i64 a] W fun e w' => e = .returned (.bool false) ∧ W = w' := fun W => by
    have hc := form_width W a
    rw [hfit] at hc
    exact hc
  go_region_held3 (fun W => W.cell? ⟨w'.heap.size, 1, none⟩ = some (.int .u8 7) ∧ W.cell? ⟨w.heap.size, 1, none⟩ = some (.int .i64 a) ∧ EffS w w'.heap.size w.heap.size ⟨nm, 7, t, g, false⟩ op a W)
    (first | exact EffS.all (hS0.below (Below.refl _ _).drew) | exact EffS.keep (r := ⟨nm, 7, t, g, false⟩) (op := op) (a := a) (by assumption) (by assumption) | assumption)
    (first
      | (go_at_call 32; (refine (code_formOf _ 7 (by decide)).mono ?_; rintro e w1 ⟨f0, f1, f2, rfl, hf, hb1⟩; obtain rfl : f2 = .func (.func 60) #[] #[] := by (rcases hf with h | h | h | h <;> simp at h; exact h)))
      | (go_at_call 60; (refine (hform _).mono ?_; rintro e w2 ⟨rfl, rfl⟩)))
  go_wp2
  go_ret3
  exact ⟨rfl, (hS0.below (Below.refl _ _).drew).below hb1 |>.low⟩

theorem Effect_room_yes (w : World) (op a : Int) (nm : ByteArray) (k t g : Int) (m : Bool) (hk : k = 8) (hm : m = false) (hfit : decide (1 ≤ a ∧ a ≤ 64) = true) (hro : ∀ W, Calls Tryz.prog 31 #[.int .i64 op] W fun e w' => e = .returned (.tuple #[.agg (rowCells ⟨nm, k, t, g, m⟩).toArray, .bool true]) ∧ Below W.heap.size W w') (k1 : 0 ≤ k) (k2 : k ≤ 8) (t1 : 0 ≤ t) (t2 : t ≤ 3) (g1 : 0 ≤ g) (g2 : g ≤ 2) :
    Calls Tryz.prog 22 #[.agg #[.int .i64 op, .int .i64 a]] w fun e w' => e = .returned (.tuple #[.int .i64 (t + (if m then a else 0)), .int .i64 g, .bool true]) ∧ Below w.heap.size w w' := by
  subst hk
  subst hm
  go_enter Tryz.func22, Tryz.ntmps22
  go_wp2_with (go_at_call 31; go_loud (refine (hro _).mono ?_; rintro e w' ⟨rfl, hb⟩; simp only [rowCells]))
  have hS0 : EffS w w'.heap.size w.heap.size ⟨nm, 8, t, g, false⟩ op a (w'.alloc (.cells #[.string nm, .int .u8 8, .int .u8 t, .int .u8 g, .bool false] 97)) := EffS.make hb
  have hfr := field_right
  have hform : ∀ W, Calls Tryz.prog 61 #[.int .i64 a] W fun e w' => e = .returned (.bool true) ∧ W = w' := fun W => by
    have hc := form_room W a
    rw [hfit] at hc
    exact hc
  go_region_held3 (fun W => W.cell? ⟨w'.heap.size, 1, none⟩ = some (.int .u8 8) ∧ W.cell? ⟨w.heap.size, 1, none⟩ = some (.int .i64 a) ∧ EffS w w'.heap.size w.heap.size ⟨nm, 8, t, g, false⟩ op a W)
    (first | exact EffS.all (hS0.below (Below.refl _ _).drew) | exact EffS.keep (r := ⟨nm, 8, t, g, false⟩) (op := op) (a := a) (by assumption) (by assumption) | assumption)
    (first
      | (go_at_call 32; (refine (code_formOf _ 8 (by decide)).mono ?_; rintro e w1 ⟨f0, f1, f2, rfl, hf, hb1⟩; obtain rfl : f2 = .func (.func 61) #[] #[] := by (rcases hf with h | h | h | h <;> simp at h; exact h)))
      | (go_at_call 61; (refine (hform _).mono ?_; rintro e w2 ⟨rfl, rfl⟩)))
  have hS1 := (hS0.below (Below.refl _ _).drew).below hb1
  have r2 : w1.cell? ⟨w'.heap.size, 2, none⟩ = some (.int .u8 t) := cell_of_blk hS1.row 2
  have r3 : w1.cell? ⟨w'.heap.size, 3, none⟩ = some (.int .u8 g) := cell_of_blk hS1.row 3
  have r4 : w1.cell? ⟨w'.heap.size, 4, none⟩ = some (.bool false) := cell_of_blk hS1.row 4
  have i1 : w1.cell? ⟨w.heap.size, 1, none⟩ = some (.int .i64 a) := cell_of_blk hS1.ins 1
  go_wp2
  go_quiet (fail)
  go_wp2
  go_ret3
  exact ⟨by simp, below_drewN hS1.low _⟩

theorem Effect_room_no (w : World) (op a : Int) (nm : ByteArray) (k t g : Int) (m : Bool) (hk : k = 8) (hm : m = false) (hfit : decide (1 ≤ a ∧ a ≤ 64) = false) (hro : ∀ W, Calls Tryz.prog 31 #[.int .i64 op] W fun e w' => e = .returned (.tuple #[.agg (rowCells ⟨nm, k, t, g, m⟩).toArray, .bool true]) ∧ Below W.heap.size W w') (k1 : 0 ≤ k) (k2 : k ≤ 8) (t1 : 0 ≤ t) (t2 : t ≤ 3) (g1 : 0 ≤ g) (g2 : g ≤ 2) :
    Calls Tryz.prog 22 #[.agg #[.int .i64 op, .int .i64 a]] w fun e w' => e = .returned (.tuple #[.int .i64 (0), .int .i64 0, .bool false]) ∧ Below w.heap.size w w' := by
  subst hk
  subst hm
  go_enter Tryz.func22, Tryz.ntmps22
  go_wp2_with (go_at_call 31; go_loud (refine (hro _).mono ?_; rintro e w' ⟨rfl, hb⟩; simp only [rowCells]))
  have hS0 : EffS w w'.heap.size w.heap.size ⟨nm, 8, t, g, false⟩ op a (w'.alloc (.cells #[.string nm, .int .u8 8, .int .u8 t, .int .u8 g, .bool false] 97)) := EffS.make hb
  have hfr := field_right
  have hform : ∀ W, Calls Tryz.prog 61 #[.int .i64 a] W fun e w' => e = .returned (.bool false) ∧ W = w' := fun W => by
    have hc := form_room W a
    rw [hfit] at hc
    exact hc
  go_region_held3 (fun W => W.cell? ⟨w'.heap.size, 1, none⟩ = some (.int .u8 8) ∧ W.cell? ⟨w.heap.size, 1, none⟩ = some (.int .i64 a) ∧ EffS w w'.heap.size w.heap.size ⟨nm, 8, t, g, false⟩ op a W)
    (first | exact EffS.all (hS0.below (Below.refl _ _).drew) | exact EffS.keep (r := ⟨nm, 8, t, g, false⟩) (op := op) (a := a) (by assumption) (by assumption) | assumption)
    (first
      | (go_at_call 32; (refine (code_formOf _ 8 (by decide)).mono ?_; rintro e w1 ⟨f0, f1, f2, rfl, hf, hb1⟩; obtain rfl : f2 = .func (.func 61) #[] #[] := by (rcases hf with h | h | h | h <;> simp at h; exact h)))
      | (go_at_call 61; (refine (hform _).mono ?_; rintro e w2 ⟨rfl, rfl⟩)))
  go_wp2
  go_ret3
  exact ⟨rfl, (hS0.below (Below.refl _ _).drew).below hb1 |>.low⟩

theorem Effect_below_yes (w : World) (op a : Int) (nm : ByteArray) (k t g : Int) (m : Bool) (hk : k ≠ 1 ∧ k ≠ 7 ∧ k ≠ 8) (ha : m = true → 0 ≤ a ∧ a ≤ 2000) (hfit : decide (0 ≤ a ∧ a < boundK k) = true) (hro : ∀ W, Calls Tryz.prog 31 #[.int .i64 op] W fun e w' => e = .returned (.tuple #[.agg (rowCells ⟨nm, k, t, g, m⟩).toArray, .bool true]) ∧ Below W.heap.size W w') (k1 : 0 ≤ k) (k2 : k ≤ 8) (t1 : 0 ≤ t) (t2 : t ≤ 3) (g1 : 0 ≤ g) (g2 : g ≤ 2) :
    Calls Tryz.prog 22 #[.agg #[.int .i64 op, .int .i64 a]] w fun e w' => e = .returned (.tuple #[.int .i64 (t + (if m then a else 0)), .int .i64 g, .bool true]) ∧ Below w.heap.size w w' := by
  go_enter Tryz.func22, Tryz.ntmps22
  go_wp2_with (go_at_call 31; go_loud (refine (hro _).mono ?_; rintro e w' ⟨rfl, hb⟩; simp only [rowCells]))
  have hS0 : EffS w w'.heap.size w.heap.size ⟨nm, k, t, g, m⟩ op a (w'.alloc (.cells #[.string nm, .int .u8 k, .int .u8 t, .int .u8 g, .bool m] 97)) := EffS.make hb
  have hfr := field_right
  have hform : ∀ (W : World) (b : Nat), W.cell? ⟨b, 0, none⟩ = some (.int .i64 (boundK k)) → Calls Tryz.prog 104 #[.int .i64 a, .pointer (some ⟨b, 0, none⟩)] W fun e w' => e = .returned (.bool true) ∧ W = w' := fun W b hb => by
    have hc := form_below W a _ _ hb
    rw [hfit] at hc
    exact hc
  go_region_held3 (fun W => W.cell? ⟨w'.heap.size, 1, none⟩ = some (.int .u8 k) ∧ W.cell? ⟨w.heap.size, 1, none⟩ = some (.int .i64 a) ∧ EffS w w'.heap.size w.heap.size ⟨nm, k, t, g, m⟩ op a W)
    (first | exact EffS.all (hS0.below (Below.refl _ _).drew) | exact EffS.keep (r := ⟨nm, k, t, g, m⟩) (op := op) (a := a) (by assumption) (by assumption) | assumption)
    (first
      | (go_at_call 32; (refine (code_formOf _ k ⟨k1, k2⟩).mono ?_; rintro e w1 ⟨f0, f1, f2, rfl, hf, hb1⟩; obtain ⟨b, rfl, hcb⟩ : ∃ b, f2 = .func (.func 104) #[] #[.pointer (some ⟨b, 0, none⟩)] ∧ w1.cell? ⟨b, 0, none⟩ = some (.int .i64 (boundK k)) := FitFn_below hk hf))
      | (go_at_call 104; (refine (hform _ _ hcb).mono ?_; rintro e w2 ⟨rfl, rfl⟩)))
  have hS1 := (hS0.below (Below.refl _ _).drew).below hb1
  have r2 : w1.cell? ⟨w'.heap.size, 2, none⟩ = some (.int .u8 t) := cell_of_blk hS1.row 2
  have r3 : w1.cell? ⟨w'.heap.size, 3, none⟩ = some (.int .u8 g) := cell_of_blk hS1.row 3
  have r4 : w1.cell? ⟨w'.heap.size, 4, none⟩ = some (.bool m) := cell_of_blk hS1.row 4
  have i1 : w1.cell? ⟨w.heap.size, 1, none⟩ = some (.int .i64 a) := cell_of_blk hS1.ins 1
  cases m with
  | false =>
    clear ha
    go_wp2
    go_quiet (fail)
    go_wp2
    go_ret3
    exact ⟨by simp, below_drewN hS1.low _⟩
  | true =>
    obtain ⟨ha1, ha2⟩ := ha rfl
    go_wp2
    go_quiet (fail)
    go_wp2
    go_ret3
    exact ⟨by simp, below_drewN hS1.low _⟩

theorem Effect_below_no (w : World) (op a : Int) (nm : ByteArray) (k t g : Int) (m : Bool) (hk : k ≠ 1 ∧ k ≠ 7 ∧ k ≠ 8) (hfit : decide (0 ≤ a ∧ a < boundK k) = false) (hro : ∀ W, Calls Tryz.prog 31 #[.int .i64 op] W fun e w' => e = .returned (.tuple #[.agg (rowCells ⟨nm, k, t, g, m⟩).toArray, .bool true]) ∧ Below W.heap.size W w') (k1 : 0 ≤ k) (k2 : k ≤ 8) (t1 : 0 ≤ t) (t2 : t ≤ 3) (g1 : 0 ≤ g) (g2 : g ≤ 2) :
    Calls Tryz.prog 22 #[.agg #[.int .i64 op, .int .i64 a]] w fun e w' => e = .returned (.tuple #[.int .i64 (0), .int .i64 0, .bool false]) ∧ Below w.heap.size w w' := by
  go_enter Tryz.func22, Tryz.ntmps22
  go_wp2_with (go_at_call 31; go_loud (refine (hro _).mono ?_; rintro e w' ⟨rfl, hb⟩; simp only [rowCells]))
  have hS0 : EffS w w'.heap.size w.heap.size ⟨nm, k, t, g, m⟩ op a (w'.alloc (.cells #[.string nm, .int .u8 k, .int .u8 t, .int .u8 g, .bool m] 97)) := EffS.make hb
  have hfr := field_right
  have hform : ∀ (W : World) (b : Nat), W.cell? ⟨b, 0, none⟩ = some (.int .i64 (boundK k)) → Calls Tryz.prog 104 #[.int .i64 a, .pointer (some ⟨b, 0, none⟩)] W fun e w' => e = .returned (.bool false) ∧ W = w' := fun W b hb => by
    have hc := form_below W a _ _ hb
    rw [hfit] at hc
    exact hc
  go_region_held3 (fun W => W.cell? ⟨w'.heap.size, 1, none⟩ = some (.int .u8 k) ∧ W.cell? ⟨w.heap.size, 1, none⟩ = some (.int .i64 a) ∧ EffS w w'.heap.size w.heap.size ⟨nm, k, t, g, m⟩ op a W)
    (first | exact EffS.all (hS0.below (Below.refl _ _).drew) | exact EffS.keep (r := ⟨nm, k, t, g, m⟩) (op := op) (a := a) (by assumption) (by assumption) | assumption)
    (first
      | (go_at_call 32; (refine (code_formOf _ k ⟨k1, k2⟩).mono ?_; rintro e w1 ⟨f0, f1, f2, rfl, hf, hb1⟩; obtain ⟨b, rfl, hcb⟩ : ∃ b, f2 = .func (.func 104) #[] #[.pointer (some ⟨b, 0, none⟩)] ∧ w1.cell? ⟨b, 0, none⟩ = some (.int .i64 (boundK k)) := FitFn_below hk hf))
      | (go_at_call 104; (refine (hform _ _ hcb).mono ?_; rintro e w2 ⟨rfl, rfl⟩)))
  go_wp2
  go_ret3
  exact ⟨rfl, (hS0.below (Below.refl _ _).drew).below hb1 |>.low⟩

end Go.Proofs.YtcbokgnogcmheaaGreatDoor
