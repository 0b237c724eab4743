/-
  MAPS WHOSE ENTRIES ARE KNOWN IN THEIR ORDER: a look-up with 'ok', a store of a new key, at keys that are strings or int64s and at elements of int.
-/
import Derived.Test.YtcbokgnogcmheaaGreatDoorBase
import Derived.MapKept
import Derived.ChangeMaps4
namespace Go.Proofs.YtcbokgnogcmheaaGreatDoor
open Go.RowKit

instance : LawfulBEq ByteArray where
  eq_of_beq h := (MapKept.bytes_beq _ _).1 h
  rfl := (MapKept.bytes_beq _ _).2 rfl

theorem findNow_str (s : ByteArray) : ∀ (es : List MapEntry) (items : List ByteArray) (f : Nat → Value) (i : Nat), es.map (fun x => (x.key, x.val)) = (items.zipIdx i).map (fun p => (Value.string p.1, f p.2)) →
    Instr.findNow .string (.string s) es i = some (if s ∈ items then some (i + items.idxOf s, f (i + items.idxOf s)) else none)
  | [], [], f, i, _ => by simp [Instr.findNow]
  | [], _ :: _, _, _, h => by simp at h
  | _ :: _, [], _, _, h => by simp at h
  | e :: es, x :: items, f, i, h => by
    simp only [List.map_cons, List.zipIdx_cons, List.cons.injEq, Prod.mk.injEq] at h
    obtain ⟨⟨hk, hv⟩, hr⟩ := h
    unfold Instr.findNow
    rw [hk]
    simp only [Instr.sameNow]
    by_cases hs : s = x
    · subst hs
      simp [hv]
    · have hs' : (s == x) = false := by simpa using hs
      have hx' : (x == s) = false := by simpa using (fun e : x = s => hs e.symm)
      rw [hs']
      simp only []
      rw [findNow_str s es items f (i + 1) hr]
      simp only [List.mem_cons, hs, false_or]
      by_cases hm : s ∈ items
      · simp only [hm, if_true, List.idxOf_cons, hx', cond_false]
        rw [show i + 1 + List.idxOf s items = i + (List.idxOf s items + 1) by omega]
      · simp [hm]
theorem findNow_i64 (s : Int) : ∀ (es : List MapEntry) (items : List Int) (f : Nat → Value) (i : Nat), es.map (fun x => (x.key, x.val)) = (items.zipIdx i).map (fun p => (Value.int .i64 p.1, f p.2)) →
    Instr.findNow (.int .i64) (.int .i64 s) es i = some (if s ∈ items then some (i + items.idxOf s, f (i + items.idxOf s)) else none)
  | [], [], f, i, _ => by simp [Instr.findNow]
  | [], _ :: _, _, _, h => by simp at h
  | _ :: _, [], _, _, h => by simp at h
  | e :: es, x :: items, f, i, h => by
    simp only [List.map_cons, List.zipIdx_cons, List.cons.injEq, Prod.mk.injEq] at h
    obtain ⟨⟨hk, hv⟩, hr⟩ := h
    unfold Instr.findNow
    rw [hk]
    simp only [Instr.sameNow, if_true]
    by_cases hs : s = x
    · subst hs
      simp [hv]
    · have hs' : (s == x) = false := by simpa using hs
      have hx' : (x == s) = false := by simpa using (fun e : x = s => hs e.symm)
      rw [hs']
      simp only []
      rw [findNow_i64 s es items f (i + 1) hr]
      simp only [List.mem_cons, hs, false_or]
      by_cases hm : s ∈ items
      · simp only [hm, if_true, List.idxOf_cons, hx', cond_false]
        rw [show i + 1 + List.idxOf s items = i + (List.idxOf s items + 1) by omega]
      · simp [hm]

/-- The entries of an index: each thing and its number. -/
def strEntries (items : List ByteArray) : List (Value × Value) := items.zipIdx.map fun p => (Value.string p.1, Value.int .i64 (p.2 : Int))
def i64Entries (items : List Int) : List (Value × Value) := items.zipIdx.map fun p => (Value.int .i64 p.1, Value.int .i64 (p.2 : Int))

section
variable {P : Program} {w : World} {t k e b : Nat}
theorem run_lookup_str (ht : P.underlying t = some (.map k e)) (hk : P.underlying k = some .string) (he : ∀ W : World, (zeroValue e).run P W = .ok (.int .i64 0) W) {items : List ByteArray} (h : MapL w b (strEntries items)) (s : ByteArray) :
    (Instr.lookup t (.map (some b)) (.string s) true).run P w = .ok (.tuple #[.int .i64 (if s ∈ items then (items.idxOf s : Int) else 0), .bool (decide (s ∈ items))]) w := by
  obtain ⟨es, clock, hb, hkv⟩ := h
  have hf := findNow_str s es.toList items (fun i => .int .i64 (i : Int)) 0 hkv
  have hc : ∀ em, (Instr.checkKey em 10000 k (.string s)).run P w = .ok () w := by intro em; unfold Instr.checkKey; simp [run_underlying hk]
  have hfk : (Instr.findKey k (.string s) es.toList).run P w = .ok (if s ∈ items then some (items.idxOf s, .int .i64 (items.idxOf s : Int)) else none) w := by
    simp [Instr.findKey, run_underlying hk, hf]
  simp only [Instr.lookup, Sem.run_bind, run_underlying ht, Result.andThen_ok]
  simp [MapKept.run_getObj_map hb, hc, hfk, Result.andThen]
  by_cases hm : s ∈ items <;> simp [hm, he]
theorem run_lookup_i64 (ht : P.underlying t = some (.map k e)) (hk : P.underlying k = some (.int .i64)) (he : ∀ W : World, (zeroValue e).run P W = .ok (.int .i64 0) W) {items : List Int} (h : MapL w b (i64Entries items)) (s : Int) :
    (Instr.lookup t (.map (some b)) (.int .i64 s) true).run P w = .ok (.tuple #[.int .i64 (if s ∈ items then (items.idxOf s : Int) else 0), .bool (decide (s ∈ items))]) w := by
  obtain ⟨es, clock, hb, hkv⟩ := h
  have hf := findNow_i64 s es.toList items (fun i => .int .i64 (i : Int)) 0 hkv
  have hc : ∀ em, (Instr.checkKey em 10000 k (.int .i64 s)).run P w = .ok () w := by intro em; unfold Instr.checkKey; simp [run_underlying hk]
  have hfk : (Instr.findKey k (.int .i64 s) es.toList).run P w = .ok (if s ∈ items then some (items.idxOf s, .int .i64 (items.idxOf s : Int)) else none) w := by
    simp [Instr.findKey, run_underlying hk, hf]
  simp only [Instr.lookup, Sem.run_bind, run_underlying ht, Result.andThen_ok]
  simp [MapKept.run_getObj_map hb, hc, hfk, Result.andThen]
  by_cases hm : s ∈ items <;> simp [hm, he]
end

theorem strEntries_snoc (items : List ByteArray) (s : ByteArray) : strEntries (items ++ [s]) = strEntries items ++ [(Value.string s, Value.int .i64 (items.length : Int))] := by
  simp [strEntries, List.zipIdx_append]
theorem i64Entries_snoc (items : List Int) (s : Int) : i64Entries (items ++ [s]) = i64Entries items ++ [(Value.int .i64 s, Value.int .i64 (items.length : Int))] := by
  simp [i64Entries, List.zipIdx_append]
section
variable {P : Program} {w : World} {t k e b : Nat}
/-- A new key is laid behind the others. -/
theorem run_store_str (ht : P.underlying t = some (.map k e)) (hk : P.underlying k = some .string) {items : List ByteArray} (h : MapL w b (strEntries items)) {s : ByteArray} (hs : s ∉ items) :
    ∃ w', (Instr.mapUpdate t (.map (some b)) (.string s) (.int .i64 (items.length : Int))).run P w = .ok () w' ∧ MapL w' b (strEntries (items ++ [s])) ∧ Fr (· = b) w w' := by
  obtain ⟨es, clock, hb, hkv⟩ := h
  have hf := findNow_str s es.toList items (fun i => .int .i64 (i : Int)) 0 hkv
  rw [if_neg hs] at hf
  have hc : (Instr.checkKey false 10000 k (.string s)).run P w = .ok () w := by unfold Instr.checkKey; simp [run_underlying hk]
  have hfk : (Instr.findKey k (.string s) es.toList).run P w = .ok none w := by simp [Instr.findKey, run_underlying hk, hf]
  refine ⟨{ w with heap := w.heap.setIfInBounds b (.map (es.push { key := .string s, val := .int .i64 (items.length : Int), born := clock }) (clock + 1)) }, by simp [Instr.mapUpdate, run_underlying ht, MapKept.run_getObj_map hb, hc, hfk, MapKept.run_setObj_map _ hb, Result.andThen], ⟨es.push { key := .string s, val := .int .i64 (items.length : Int), born := clock }, clock + 1, ?_, ?_⟩, ⟨rfl, rfl, rfl, by simp, fun i hi hne => ?_⟩⟩
  · have hlt := lt_of_block hb
    simp [hlt]
  · rw [Array.toList_push, List.map_append, hkv, strEntries_snoc]; rfl
  · simp [Array.getElem?_setIfInBounds_ne (Ne.symm hne)]
theorem run_store_i64 (ht : P.underlying t = some (.map k e)) (hk : P.underlying k = some (.int .i64)) {items : List Int} (h : MapL w b (i64Entries items)) {s : Int} (hs : s ∉ items) :
    ∃ w', (Instr.mapUpdate t (.map (some b)) (.int .i64 s) (.int .i64 (items.length : Int))).run P w = .ok () w' ∧ MapL w' b (i64Entries (items ++ [s])) ∧ Fr (· = b) w w' := by
  obtain ⟨es, clock, hb, hkv⟩ := h
  have hf := findNow_i64 s es.toList items (fun i => .int .i64 (i : Int)) 0 hkv
  rw [if_neg hs] at hf
  have hc : (Instr.checkKey false 10000 k (.int .i64 s)).run P w = .ok () w := by unfold Instr.checkKey; simp [run_underlying hk]
  have hfk : (Instr.findKey k (.int .i64 s) es.toList).run P w = .ok none w := by simp [Instr.findKey, run_underlying hk, hf]
  refine ⟨{ w with heap := w.heap.setIfInBounds b (.map (es.push { key := .int .i64 s, val := .int .i64 (items.length : Int), born := clock }) (clock + 1)) }, by simp [Instr.mapUpdate, run_underlying ht, MapKept.run_getObj_map hb, hc, hfk, MapKept.run_setObj_map _ hb, Result.andThen], ⟨es.push { key := .int .i64 s, val := .int .i64 (items.length : Int), born := clock }, clock + 1, ?_, ?_⟩, ⟨rfl, rfl, rfl, by simp, fun i hi hne => ?_⟩⟩
  · have hlt := lt_of_block hb
    simp [hlt]
  · rw [Array.toList_push, List.map_append, hkv, i64Entries_snoc]; rfl
  · simp [Array.getElem?_setIfInBounds_ne (Ne.symm hne)]
end
/-- A store into a map, AT THE OPERATION: whatever is known of the world behind it. -/
theorem wpList_mapUpdate_R {P : Program} {w : World} {ops : Array Oper} {rest : List Oper} {o : Oper} {a : Act} {Q : Exit → Act → World → Prop} (hg : o.guard = none) (m x v : Operand) (t : TypeId) (hop : o.op = Op.mapUpdate t m x v)
    (mv key val : Value) (hm : a.eval m = mv) (hx : a.eval x = key) (hv : a.eval v = val) (R : World → Prop) (hrun : ∃ w1, (Instr.mapUpdate t mv key val).run P w = .ok () w1 ∧ R w1)
    (hK : ∀ w1, R w1 → wpList P ops Q rest (a.put o.dst undef) w1) : wpList P ops Q (o :: rest) a w := by
  obtain ⟨w1, hr, hR⟩ := hrun
  refine wpList_plain hg fun K' hK' => ?_
  unfold Oper.wp
  simp [execOp, hop, hm, hx, hv, hr, Result.andThen]
  exact hK' _ _ (hK w1 hR)
end Go.Proofs.YtcbokgnogcmheaaGreatDoor
