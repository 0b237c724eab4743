/-
  THE TABLE OF OPCODES (package code): its rows as a list, and what early, later and rowOf hand back at every opcode.
-/
import Derived.Test.YtcbokgnogcmheaaGreatDoorOps1
import Derived.Deep.Cut
import Derived.Laws.Tables
import Derived.Deep.WholeRow
namespace Go.Proofs.YtcbokgnogcmheaaGreatDoor
open Go.RowKit

/-- A row of the table: its name, the kind of its operand, what it takes, what it gives, whether it takes more by its operand. -/
structure OpRow where
  name : ByteArray
  kind : Int
  takes : Int
  gives : Int
  more : Bool
deriving Inhabited
def rowCells (r : OpRow) : List Value := [.string r.name, .int .u8 r.kind, .int .u8 r.takes, .int .u8 r.gives, .bool r.more]
def opRows : List OpRow := [
  ⟨⟨#[110, 111, 112]⟩, 0, 0, 0, false⟩,
  ⟨⟨#[110, 105, 108]⟩, 0, 0, 1, false⟩,
  ⟨⟨#[116, 114, 117, 101]⟩, 0, 0, 1, false⟩,
  ⟨⟨#[102, 97, 108, 115, 101]⟩, 0, 0, 1, false⟩,
  ⟨⟨#[105, 110, 116]⟩, 1, 0, 1, false⟩,
  ⟨⟨#[99, 111, 110, 115, 116]⟩, 4, 0, 1, false⟩,
  ⟨⟨#[102, 117, 110, 99]⟩, 5, 0, 1, false⟩,
  ⟨⟨#[112, 111, 112]⟩, 0, 1, 0, false⟩,
  ⟨⟨#[100, 117, 112]⟩, 0, 1, 2, false⟩,
  ⟨⟨#[115, 119, 97, 112]⟩, 0, 2, 2, false⟩,
  ⟨⟨#[108, 111, 97, 100]⟩, 3, 0, 1, false⟩,
  ⟨⟨#[115, 116, 111, 114, 101]⟩, 3, 1, 0, false⟩,
  ⟨⟨#[97, 100, 100]⟩, 0, 2, 1, false⟩,
  ⟨⟨#[115, 117, 98]⟩, 0, 2, 1, false⟩,
  ⟨⟨#[109, 117, 108]⟩, 0, 2, 1, false⟩,
  ⟨⟨#[100, 105, 118]⟩, 0, 2, 1, false⟩,
  ⟨⟨#[114, 101, 109]⟩, 0, 2, 1, false⟩,
  ⟨⟨#[110, 101, 103]⟩, 0, 1, 1, false⟩,
  ⟨⟨#[97, 110, 100]⟩, 0, 2, 1, false⟩,
  ⟨⟨#[111, 114]⟩, 0, 2, 1, false⟩,
  ⟨⟨#[120, 111, 114]⟩, 0, 2, 1, false⟩,
  ⟨⟨#[110, 111, 116]⟩, 0, 1, 1, false⟩,
  ⟨⟨#[115, 104, 108]⟩, 0, 2, 1, false⟩,
  ⟨⟨#[115, 104, 114]⟩, 0, 2, 1, false⟩,
  ⟨⟨#[101, 120, 116]⟩, 7, 1, 1, false⟩,
  ⟨⟨#[101, 113]⟩, 0, 2, 1, false⟩,
  ⟨⟨#[110, 101]⟩, 0, 2, 1, false⟩,
  ⟨⟨#[108, 116]⟩, 0, 2, 1, false⟩,
  ⟨⟨#[108, 101]⟩, 0, 2, 1, false⟩,
  ⟨⟨#[116, 101, 115, 116]⟩, 0, 1, 1, false⟩,
  ⟨⟨#[102, 108, 105, 112]⟩, 0, 1, 1, false⟩,
  ⟨⟨#[116, 111, 105, 110, 116]⟩, 0, 1, 1, false⟩,
  ⟨⟨#[116, 111, 114, 101, 97, 108]⟩, 0, 1, 1, false⟩,
  ⟨⟨#[115, 105, 110, 103, 108, 101]⟩, 0, 1, 1, false⟩,
  ⟨⟨#[116, 111, 116, 101, 120, 116]⟩, 0, 1, 1, false⟩,
  ⟨⟨#[107, 105, 110, 100]⟩, 0, 1, 1, false⟩,
  ⟨⟨#[102, 108, 111, 111, 114]⟩, 0, 1, 1, false⟩,
  ⟨⟨#[115, 113, 114, 116]⟩, 0, 1, 1, false⟩,
  ⟨⟨#[99, 97, 116]⟩, 0, 2, 1, false⟩,
  ⟨⟨#[99, 117, 116]⟩, 0, 3, 1, false⟩,
  ⟨⟨#[106, 117, 109, 112]⟩, 2, 0, 0, false⟩,
  ⟨⟨#[106, 122]⟩, 2, 1, 0, false⟩,
  ⟨⟨#[106, 110, 122]⟩, 2, 1, 0, false⟩,
  ⟨⟨#[99, 97, 108, 108]⟩, 6, 1, 1, true⟩,
  ⟨⟨#[114, 101, 116]⟩, 0, 1, 0, false⟩,
  ⟨⟨#[116, 104, 114, 111, 119]⟩, 0, 1, 0, false⟩,
  ⟨⟨#[98, 105, 110, 100]⟩, 6, 1, 1, true⟩,
  ⟨⟨#[97, 114, 114, 97, 121]⟩, 6, 0, 1, true⟩,
  ⟨⟨#[114, 101, 99, 111, 114, 100]⟩, 0, 0, 1, false⟩,
  ⟨⟨#[103, 101, 116]⟩, 0, 2, 1, false⟩,
  ⟨⟨#[115, 101, 116]⟩, 0, 3, 0, false⟩,
  ⟨⟨#[112, 117, 115, 104]⟩, 0, 2, 0, false⟩,
  ⟨⟨#[108, 101, 110]⟩, 0, 1, 1, false⟩,
  ⟨⟨#[103, 101, 116, 102]⟩, 4, 1, 1, false⟩,
  ⟨⟨#[115, 101, 116, 102]⟩, 4, 2, 0, false⟩,
  ⟨⟨#[104, 97, 115, 102]⟩, 4, 1, 1, false⟩,
  ⟨⟨#[100, 101, 108, 102]⟩, 4, 1, 0, false⟩,
  ⟨⟨#[107, 101, 121, 115]⟩, 0, 1, 1, false⟩,
  ⟨⟨#[112, 114, 105, 110, 116]⟩, 0, 1, 0, false⟩,
  ⟨⟨#[114, 101, 97, 100]⟩, 0, 0, 1, false⟩,
  ⟨⟨#[115, 112, 97, 119, 110]⟩, 6, 1, 0, true⟩,
  ⟨⟨#[121, 105, 101, 108, 100]⟩, 0, 0, 0, false⟩,
  ⟨⟨#[99, 104, 97, 110]⟩, 8, 0, 1, false⟩,
  ⟨⟨#[115, 101, 110, 100]⟩, 0, 2, 0, false⟩,
  ⟨⟨#[114, 101, 99, 118]⟩, 0, 1, 1, false⟩,
  ⟨⟨#[115, 104, 117, 116]⟩, 0, 1, 0, false⟩,
  ⟨⟨#[98, 105, 99]⟩, 0, 2, 1, false⟩]

def rv (k : Nat) : Value := .agg (rowCells (opRows.getD k default)).toArray
theorem rows_length : opRows.length = 67 := by decide +kernel

/-- A run of build operations, reckoned: the frame behind them. -/
def evalBuilds (P : Program) : List Oper → Act → Option Act
  | [], a => some a
  | o :: os, a =>
    match o.op, o.guard with
    | .build t parts, none =>
      match P.built t (parts.map fun (i, x) => (i, a.eval x)).toList with
      | some cells => evalBuilds P os (a.put o.dst (.agg cells))
      | none => none
    | _, _ => none
theorem wpList_builds_aux {P : Program} {ops : Array Oper} {Q : Exit → Act → World → Prop} {w : World} (rest : List Oper) : ∀ (bs : List Oper) (a a' : Act), evalBuilds P bs a = some a' → wpList P ops Q rest a' w → wpList P ops Q (bs ++ rest) a w
  | [], a, a', h, k => by
    simp only [evalBuilds, Option.some.injEq] at h
    subst h
    exact k
  | o :: os, a, a', h, k => by
    unfold evalBuilds at h
    split at h
    · rename_i t parts ho hg
      split at h
      · rename_i cells hc
        refine wpList_build hg t parts ho (by rw [hc]; rfl) ?_
        rw [hc]
        exact wpList_builds_aux rest os _ _ h k
      · cases h
    · cases h
theorem wpList_builds {P : Program} {ops : Array Oper} {Q : Exit → Act → World → Prop} {a a' : Act} {w : World} {l : List Oper} (n : Nat) (h : evalBuilds P (l.take n) a = some a') (k : wpList P ops Q (l.drop n) a' w) : wpList P ops Q l a w := by
  have := wpList_builds_aux (l.drop n) (l.take n) a a' h k
  rwa [List.take_append_drop] at this
theorem wpList_alloc {P : Program} {ops : Array Oper} {Q : Exit → Act → World → Prop} {rest : List Oper} {o : Oper} {a : Act} {w : World} (hg : o.guard = none) (t : TypeId) (ho : o.op = .alloc t) (z : Value) (hz : (P.info? t).map (fun i => i.zero) = some (some z))
    (h : wpList P ops Q rest (a.put o.dst (.pointer (some ⟨w.heap.size, 0, none⟩))) (w.alloc (.cells z.cells t))) : wpList P ops Q (o :: rest) a w := by
  refine wpList_plain hg fun K hK => ?_
  unfold Oper.wp execOp
  simp only [ho]
  cases hi : P.info? t with
  | none => simp [hi] at hz
  | some i =>
    simp only [hi, Option.map_some, Option.some.injEq] at hz
    simp [Instr.alloc, zeroValue, typeInfo, hi, hz, Sem.run_bind, Result.andThen, newVar, go_sem]
    exact hK _ _ h

theorem rowCells_at (l : List OpRow) (i j : Nat) (hi : i < l.length) (hj : j < 5) : (l.flatMap rowCells)[i * 5 + j]? = (rowCells (l.getD i default))[j]? := by
  induction l generalizing i with
  | nil => simp at hi
  | cons r l ih =>
    cases i with
    | zero =>
      have h5 : (rowCells r).length = 5 := rfl
      rw [List.flatMap_cons, List.getElem?_append_left (by omega)]
      simp
    | succ i =>
      have := ih i (by simpa using hi)
      have h5 : (rowCells r).length = 5 := rfl
      rw [List.flatMap_cons, List.getElem?_append_right (by omega), h5, show (i + 1) * 5 + j - 5 = i * 5 + j by omega, this]
      simp

def earlyRows : List OpRow := (opRows.drop 0).take 38
def earlyCells : Array Value := (earlyRows.flatMap rowCells).toArray
theorem early_at (i j : Nat) (hi : i < 38) (hj : j < 5) : earlyCells[i * 5 + j]? = (rowCells (earlyRows.getD i default))[j]? := by
  have h := rowCells_at earlyRows i j ((show earlyRows.length = 38 by decide +kernel) ▸ hi) hj
  simpa [earlyCells] using h
theorem info_early : (Tryz.prog.info? 192).map (fun i => i.zero) = some (some (.agg (Array.range 38 |>.flatMap fun _ => #[.string ⟨#[]⟩, .int .u8 0, .int .u8 0, .int .u8 0, .bool false]))) := by kernel_rfl
theorem size_early : (Tryz.prog.info? 192).map (·.size) = some earlyCells.size := by kernel_rfl
theorem code_early (w : World) (i : Nat) (hi : i < 38) : Calls Tryz.prog 50 #[.int .i64 i] w fun e w' => e = .returned (.agg (rowCells (earlyRows.getD i default)).toArray) ∧ Below w.heap.size w w' := by
  go_enter Tryz.func50, Tryz.ntmps50
  go_upto_region 1 with (fail)
  refine wp_region_lit ?_
  refine wpList_builds (a' := ⟨#[(.int .i64 i), undef, (.pointer (some ⟨w.heap.size, 0, none⟩)), undef, (rv 0), (rv 1), (rv 2), (rv 3), (rv 4), (rv 5), (rv 6), (rv 7), (rv 8), (rv 9), (rv 10), (rv 11), (rv 12), (rv 13), (rv 14), (rv 15), (rv 16), (rv 17), (rv 18), (rv 19), (rv 20), (rv 21), (rv 22), (rv 23), (rv 24), (rv 25), (rv 26), (rv 27), (rv 28), (rv 29), (rv 30), (rv 31), (rv 32), (rv 33), (rv 34), (rv 35), (rv 36), (rv 37), (.agg earlyCells), undef, undef, undef], []⟩) 39 (by kernel_rfl) ?_
  simp only [List.drop_succ_cons, List.drop_zero]
  refine wpList_alloc rfl _ rfl _ info_early ?_
  refine wpList_store_row rfl _ _ _ rfl _ earlyCells rfl rfl _ _ (blk_new _ _) size_early (by kernel_rfl) (by kernel_rfl) ?_
  rw [World.setRow_alloc_new]
  simp only [Act.put, List.setIfInBounds_toArray, List.set_cons_zero, List.set_cons_succ]
  have hB := blk_new (w.alloc (Obj.cells #[Value.string ⟨#[]⟩, Value.int IntKind.u8 0, Value.int IntKind.u8 0, Value.int IntKind.u8 0, Value.bool false] 97)) (Obj.cells earlyCells 192)
  have c0 := (cell_of_blk hB (i * 5 + 0)).trans (early_at i 0 hi (by decide))
  have c1 := (cell_of_blk hB (i * 5 + 1)).trans (early_at i 1 hi (by decide))
  have c2 := (cell_of_blk hB (i * 5 + 2)).trans (early_at i 2 hi (by decide))
  have c3 := (cell_of_blk hB (i * 5 + 3)).trans (early_at i 3 hi (by decide))
  have c4 := (cell_of_blk hB (i * 5 + 4)).trans (early_at i 4 hi (by decide))
  rcases hr : earlyRows.getD i default with ⟨n, k, t, g, m⟩
  rw [hr] at c0 c1 c2 c3 c4
  simp only [rowCells, List.getElem?_cons_zero, List.getElem?_cons_succ, Nat.add_zero, World.size_alloc] at c0 c1 c2 c3 c4
  go_wp2
  exact ret_c rfl rfl (heap_alloc2_old _ _ _) Tryz.underlying97 rfl size_row rfl ⟨by rw [hr]; rfl, ((Below.refl _ _).alloc (Nat.le_refl _) _).alloc (by simp) _⟩

def laterRows : List OpRow := (opRows.drop 38).take 29
def laterCells : Array Value := (laterRows.flatMap rowCells).toArray
theorem later_at (i j : Nat) (hi : i < 29) (hj : j < 5) : laterCells[i * 5 + j]? = (rowCells (laterRows.getD i default))[j]? := by
  have h := rowCells_at laterRows i j ((show laterRows.length = 29 by decide +kernel) ▸ hi) hj
  simpa [laterCells] using h
theorem info_later : (Tryz.prog.info? 193).map (fun i => i.zero) = some (some (.agg (Array.range 29 |>.flatMap fun _ => #[.string ⟨#[]⟩, .int .u8 0, .int .u8 0, .int .u8 0, .bool false]))) := by kernel_rfl
theorem size_later : (Tryz.prog.info? 193).map (·.size) = some laterCells.size := by kernel_rfl
theorem code_later (w : World) (i : Nat) (hi : i < 29) : Calls Tryz.prog 51 #[.int .i64 (38 + i)] w fun e w' => e = .returned (.agg (rowCells (laterRows.getD i default)).toArray) ∧ Below w.heap.size w w' := by
  go_enter Tryz.func51, Tryz.ntmps51
  go_upto_region 1 with (fail)
  refine wp_region_lit ?_
  refine wpList_builds (a' := ⟨#[(.int .i64 (38 + i)), undef, (.pointer (some ⟨w.heap.size, 0, none⟩)), undef, (rv 38), (rv 39), (rv 40), (rv 41), (rv 42), (rv 43), (rv 44), (rv 45), (rv 46), (rv 47), (rv 48), (rv 49), (rv 50), (rv 51), (rv 52), (rv 53), (rv 54), (rv 55), (rv 56), (rv 57), (rv 58), (rv 59), (rv 60), (rv 61), (rv 62), (rv 63), (rv 64), (rv 65), (rv 66), (.agg laterCells), undef, undef, undef, undef], []⟩) 30 (by kernel_rfl) ?_
  simp only [List.drop_succ_cons, List.drop_zero]
  refine wpList_alloc rfl _ rfl _ info_later ?_
  refine wpList_store_row rfl _ _ _ rfl _ laterCells rfl rfl _ _ (blk_new _ _) size_later (by kernel_rfl) (by kernel_rfl) ?_
  rw [World.setRow_alloc_new]
  simp only [Act.put, List.setIfInBounds_toArray, List.set_cons_zero, List.set_cons_succ]
  have hB := blk_new (w.alloc (Obj.cells #[Value.string ⟨#[]⟩, Value.int IntKind.u8 0, Value.int IntKind.u8 0, Value.int IntKind.u8 0, Value.bool false] 97)) (Obj.cells laterCells 193)
  have c0 := (cell_of_blk hB (i * 5 + 0)).trans (later_at i 0 hi (by decide))
  have c1 := (cell_of_blk hB (i * 5 + 1)).trans (later_at i 1 hi (by decide))
  have c2 := (cell_of_blk hB (i * 5 + 2)).trans (later_at i 2 hi (by decide))
  have c3 := (cell_of_blk hB (i * 5 + 3)).trans (later_at i 3 hi (by decide))
  have c4 := (cell_of_blk hB (i * 5 + 4)).trans (later_at i 4 hi (by decide))
  rcases hr : laterRows.getD i default with ⟨n, k, t, g, m⟩
  rw [hr] at c0 c1 c2 c3 c4
  simp only [rowCells, List.getElem?_cons_zero, List.getElem?_cons_succ, Nat.add_zero, World.size_alloc] at c0 c1 c2 c3 c4
  go_wp2
  exact ret_c rfl rfl (heap_alloc2_old _ _ _) Tryz.underlying97 rfl size_row rfl ⟨by rw [hr]; rfl, ((Below.refl _ _).alloc (Nat.le_refl _) _).alloc (by simp) _⟩
end Go.Proofs.YtcbokgnogcmheaaGreatDoor
