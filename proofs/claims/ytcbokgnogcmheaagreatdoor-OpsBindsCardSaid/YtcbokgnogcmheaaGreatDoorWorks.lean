/-
  THE LAW's OWN EXAMPLE (portagelaw13.works) says true; two values compared.
-/
import Derived.Test.YtcbokgnogcmheaaGreatDoorMade
import Derived.Test.YtcbokgnogcmheaaGreatDoorSteps
import Derived.Laws.StructEq
namespace Go.Proofs.YtcbokgnogcmheaaGreatDoor
open Go.RowKit
set_option linter.unusedVariables false

theorem fieldsOf_of {P : Program} {t : TypeId} {fs : Array Field} (h : P.underlying t = some (.struct fs)) : P.fieldsOf t = fs := by simp [Program.fieldsOf, h]
theorem struct_of {P : Program} {t : TypeId} {fs : Array Field} (h : P.underlying t = some (.struct fs)) : P.underlying t = some (.struct (P.fieldsOf t)) := by rw [fieldsOf_of h, h]
theorem value_stood : Tryz.prog.stoodInHeld 40 = false := by kernel_rfl
theorem value_guard : Tryz.prog.eqGuardType Tryz.prog.depth 40 = false := by kernel_rfl
theorem value_eql (w : World) (a b c d : Int) : (binOp .eql 40 (.agg #[.int .i64 a, .int .i64 b]) (.agg #[.int .i64 c, .int .i64 d])).run Tryz.prog w = .ok (.bool (a == c && b == d)) w := by
  have hf := fieldsOf_of Tryz.underlying40
  have h1 : ∀ (w : World) (x y : Int), (Op.equalIn 9999 3 (.int .i64 x) (.int .i64 y)).run Tryz.prog w = .ok (x == y) w := fun w x y => run_equalIn_int w 9998 _ .i64 .i64 x y Tryz.underlying3
  have h2 : ∀ (w : World) (x y : Int), (Op.equalIn 9999 2 (.int .i64 x) (.int .i64 y)).run Tryz.prog w = .ok (x == y) w := fun w x y => run_equalIn_int w 9998 _ .i64 .i64 x y Tryz.underlying2
  rw [run_eql_struct, run_equalIn_agg w 9999 _ _ _ (struct_of Tryz.underlying40) value_stood, hf]
  simp only [Op.eqFields]
  cases hac : a == c <;> cases hbd : b == d <;> simp [go_sem, h1, h2, hac, hbd]

/-- The example's program. -/
def mainPrg : PrgD := ⟨[], [⟨⟨#[109, 97, 105, 110]⟩, 0, 0, [(1, 0), (44, 0)], []⟩]⟩
def tA : ByteArray := ⟨#[97]⟩
def tAB : ByteArray := ⟨#[97, 98]⟩
def tAAB : ByteArray := ⟨#[97, 97, 98]⟩

theorem rd_block {G : Nat → Prop} {w : World} {g n size : Nat} {xs : List Value} {t : TypeId} {fz : Nat × Nat} (hb : w.heap[g]? = some (.cells xs.toArray t fz)) (hG : G g) (hl : xs.length = n * size) : Rd G w size (some ⟨g, 0, none⟩) n xs :=
  ⟨hl, .inr ⟨g, 0, rfl, hG, lt_of_block hb, fun j v hv => by rw [cell_of_blk hb, Nat.zero_add]; simpa using hv⟩⟩
theorem args_block {w : World} {g : Nat} {vs : List VV} {t : TypeId} {fz : Nat × Nat} (hb : w.heap[g]? = some (.cells (vvs vs).toArray t fz)) : ArgsAt w g 0 vs := fun j v hv => by rw [cell_of_blk hb, Nat.zero_add]; simpa using hv

/-- The example's memory, as made is called. -/
def exW (w : World) : World := (((w.alloc (.cells #[.int .i64 1, .int .i64 0, .int .i64 44, .int .i64 0] 44)).alloc (.cells #[.string ⟨#[109, 97, 105, 110]⟩, .int .i64 0, .int .i64 0, .slice (some ⟨w.heap.size, 0, none⟩) 2 2, .slice none 0 0] 52)).alloc
    (.cells #[.slice none 0 0, .slice (some ⟨w.heap.size + 1, 0, none⟩) 1 1] 29)).alloc (.cells #[.string ⟨#[97]⟩, .string ⟨#[97, 98]⟩] 9)
theorem exW_prg (w : World) : PrgAt (fun _ => True) (exW w) none (some ⟨w.heap.size + 1, 0, none⟩) mainPrg := by
  have h0 : (exW w).heap[w.heap.size]? = _ := blk_alloc (blk_alloc (blk_alloc (blk_new w _) _) _) _
  have h1 : (exW w).heap[w.heap.size + 1]? = _ := blk_alloc (blk_alloc (heap_alloc2_new w _ _) _) _
  refine ⟨Rd.nil _ _ _ _, [[.string ⟨#[109, 97, 105, 110]⟩, .int .i64 0, .int .i64 0, .slice (some ⟨w.heap.size, 0, none⟩) 2 2, .slice none 0 0]], rd_block h1 trivial rfl, rfl, by simp, fun i f hi => ?_⟩
  cases i with
  | zero =>
    simp only [mainPrg, List.getElem?_cons_zero, Option.some.injEq] at hi
    subst hi
    exact ⟨_, rfl, some ⟨w.heap.size, 0, none⟩, 2, none, 0, rfl, rd_block h0 trivial rfl, Rd.nil _ _ _ _⟩
  | succ i => simp [mainPrg] at hi
theorem exW_texts (w : World) : Rd (fun _ => True) (exW w) 1 (some ⟨w.heap.size + 1 + 1 + 1, 0, none⟩) 2 ([tA, tAB].map Value.string) := by
  have h := blk_new (((w.alloc (.cells #[.int .i64 1, .int .i64 0, .int .i64 44, .int .i64 0] 44)).alloc (.cells #[.string ⟨#[109, 97, 105, 110]⟩, .int .i64 0, .int .i64 0, .slice (some ⟨w.heap.size, 0, none⟩) 2 2, .slice none 0 0] 52)).alloc
    (.cells #[.slice none 0 0, .slice (some ⟨w.heap.size + 1, 0, none⟩) 1 1] 29)) (.cells #[.string ⟨#[97]⟩, .string ⟨#[97, 98]⟩] 9)
  simp only [World.size_alloc] at h
  exact rd_block h trivial rfl
theorem exW_below (w : World) : Below w.heap.size w (exW w) := (below_alloc3 w _ _ _).alloc (by simp; omega) _
theorem cat_ex : tA ++ tAB = tAAB := by decide +kernel
theorem add_ex : addT [tA, tAB] tAAB = [tA, tAB, tAAB] := by decide +kernel
theorem idx_ex : ([tA, tAB, tAAB] : List ByteArray).idxOf tAAB = 2 := by decide +kernel

theorem sp_ex : (max 0 0 : Int) + (1 + (tAAB.size : Int)) = 4 := by decide
theorem At_ex {own : Nat → Nat} {w : World} {ib : Nat} (h : IndexAt own w ib [tA, tAB, tAAB]) :
    Calls Tryz.prog 18 #[.pointer (some ⟨ib, 0, none⟩), .int .i64 2] w fun e w' => e = .returned (.tuple #[.string ⟨#[97, 97, 98]⟩, .bool true]) ∧ w = w' := Intern_At h 2
set_option maxRecDepth 4000 in
theorem works (w : World) : Calls Tryz.prog 5 #[] w fun e w' => e = .returned (.bool true) ∧ Below w.heap.size w w' := by
  have hM := aside (made_none (exW_prg w) (c := 0) (c' := 1) (by decide) (by decide) (by intro f hf; simp [mainPrg] at hf; subst hf; decide) (exW_texts w) (ct := 2) (c0 := 0) (by decide +kernel) (by decide) 10 0)
  go_enter Tryz.func5, Tryz.ntmps5
  go_wp2_with (first
    | (go_at_call 7; go_loud (refine hM.out.mono ?_; rintro e w5 ⟨wb, own, A2, c2, A3, c3, rfl, hW, hz, hP, hb5⟩; have hb6 := below_alloc1 w5 (.cells #[.int .i64 4, .int .i64 0, .int .i64 4, .int .i64 1] 40); have hS := aside (Apply_cat (c := 2) (hW.below hb6) (by decide) (by decide) (by decide) (by decide) (by decide) (args_block (vs := [(4, 0), (4, 1)]) (blk_new w5 _)) (sa := tA) (sb := tAB) rfl rfl (by decide) (by decide)); rw [cat_ex, add_ex, idx_ex, sp_ex] at hS))
    | (go_at_call 9; go_loud (refine hS.out.mono ?_; rintro e w7 ⟨own7, rfl, hW7, st7⟩; unfold vg; have hW8 := aside (hW7.below (below_alloc1 w7 (.cells #[.int .i64 4, .int .i64 2] 40))); obtain ⟨h6, hT, hb, ib, hBl, hH, hI⟩ := hW8.out; have k3 := cell_of_blk hBl 3; have k2 := cell_of_blk hBl 2; simp only [List.getElem?_toArray, List.getElem?_cons_zero, List.getElem?_cons_succ] at k2 k3; have hAt := aside (At_ex hI); have hSp := aside (Heap_Spent hH); clear hBl hH hI))
    | (go_at_call 18; go_loud (refine hAt.out.mono ?_; rintro e w8 ⟨rfl, rfl⟩))
    | (go_at_call 11; go_loud (refine hSp.out.mono ?_; rintro e w9 ⟨rfl, rfl⟩)))
  have s1 := (exW_below w).size
  have s2 := hb5.size
  have s3 := hb6.size
  have s4 := st7.fr.size
  go_ret
  exact ⟨rfl, ((((exW_below w).trans (hb5.mono s1)).trans (hb6.mono (by omega))).trans (st7.below (by omega) (fun k hk => hz k (by omega)))).alloc (by omega) _⟩
end Go.Proofs.YtcbokgnogcmheaaGreatDoor
