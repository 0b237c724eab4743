/-
  VALUES COPIED AND COMPARED (portageref0): CopyValues, SameValues, SameLongs, SameObject.
-/
import Derived.Test.YtcbokgnogcmheaaGreatDoorBind8
namespace Go.Proofs.YtcbokgnogcmheaaGreatDoor
open Go.RowKit
set_option linter.unusedVariables false
set_option linter.unusedSimpArgs false

set_option maxRecDepth 8000 in
theorem CopyValues {w : World} (A : Option Addr) (c : Nat) (l : List VV) (hs : Rd (fun _ => True) w 2 A l.length (vvs l)) (hlen : l.length ≤ 1099511627776) :
    Calls Tryz.prog 13 #[.slice A l.length c] w fun e w' => ∃ A' c' own', e = .returned (.slice A' l.length c') ∧ Row own' 1 w' 40 2 (.slice A' l.length c') l.length (vvs l) ∧ Tidy own' w' ∧ Ext none0 own' w ∧ Below w.heap.size w w' := by
  obtain ⟨i0, hi0, hz0, hz1, hz2⟩ := info_parts info_value
  go_enter Tryz.func13, Tryz.ntmps13
  go_wp2
  go_loopg [3, 4] l.length (fun k vl vi wr => ∃ (i : Nat) (own : Nat → Nat), vi = .int .i64 i ∧ i + k = l.length ∧ CopyI w.heap.size w 40 2 (l.map vv) i own vl wr)
  case atStart => exact ⟨0, none0, rfl, by omega, CopyI.start _ _ _ _ _⟩
  case round =>
    obtain ⟨i, own, rfl, hik0, hC⟩ := hrel
    have hil : i ≤ l.length := by omega
    have hik : Aside (i + gk = l.length) := hik0
    clear hik0
    by_cases hlt : i < l.length
    · obtain ⟨g, o, rfl, _, hg, hr⟩ := hs.2.resolve_left (by omega)
      have c0 : wr.cell? ⟨g, o + i * 2, none⟩ = some (.int .i64 l[i].1) := below_cell hC.low (hr _ _ (vvs_at l i hlt).1) hg
      have c1 : wr.cell? ⟨g, o + i * 2 + 1, none⟩ = some (.int .i64 l[i].2) := below_cell hC.low (hr _ _ (vvs_at l i hlt).2) hg
      have b0 : (0 : Int) ≤ i := by omega
      have b1 : (i : Int) < l.length := by omega
      obtain ⟨A1, c1', rfl, hc, hcm⟩ := hC.row.slice
      have H : Aside (CopyI w.heap.size w 40 2 (l.map vv) i own (.slice A1 i c1') wr) := hC
      clear hC hr hs
      go_wp2_with (at_builtin; go_loud (refine wpList_append_Row rfl _ _ _ rfl own 1 40 i0 (.agg #[.int .i64 0, .int .i64 0]) 2 16 Tryz.underlying46 hi0 hz0 hz1 hz2 rfl (by decide) _ i _ rfl (H.out.rowA _) _ 1 1 (vv l[i]) rfl (Src.block (blk_new wr _) rfl) (by simp [vv, Value.oneCell']) (by unfold maxLen; omega) (by omega) ?_; rintro v2 w2 own2 hr2 hf2 ht2 he2; have H2 : Aside (CopyI w.heap.size w 40 2 (l.map vv) (i + 1) own2 v2 w2) := H.out.next (Nat.le_refl _) (by simp [hlt]) hr2 hf2 ht2 he2; clear hr2 hf2 ht2 he2 c0 c1))
      go_roundg (gk - 1)
      case measure => have := hik.out; omega
      case rel => exact ⟨i + 1, own2, by go_num, by have := hik.out; omega, H2.out⟩
    · obtain rfl : i = l.length := by omega
      clear hik
      obtain ⟨A1, c1', rfl, hc, hcm⟩ := hC.row.slice
      have H := aside hC
      clear hC
      go_wp2
      go_ret
      have hR := H.out.row
      rw [show (l.map vv).take l.length = l.map vv by rw [List.take_of_length_le (by simp)]] at hR
      exact ⟨A1, c1', own, rfl, by simpa [vvs, List.flatMap] using hR, H.out.tidy, H.out.ext, H.out.low⟩

theorem value_neq (w : World) (a b c d : Int) : (binOp .neq 40 (.agg #[.int .i64 a, .int .i64 b]) (.agg #[.int .i64 c, .int .i64 d])).run Tryz.prog w = .ok (.bool (!(a == c && b == d))) w := by
  have hf := fieldsOf_of Tryz.underlying40
  have h1 : ∀ (w : World) (x y : Int), (Op.equalIn 9999 3 (.int .i64 x) (.int .i64 y)).run Tryz.prog w = .ok (x == y) w := fun w x y => run_equalIn_int w 9998 _ .i64 .i64 x y Tryz.underlying3
  have h2 : ∀ (w : World) (x y : Int), (Op.equalIn 9999 2 (.int .i64 x) (.int .i64 y)).run Tryz.prog w = .ok (x == y) w := fun w x y => run_equalIn_int w 9998 _ .i64 .i64 x y Tryz.underlying2
  rw [run_neq_struct, run_equalIn_agg w 9999 _ _ _ (struct_of Tryz.underlying40) value_stood, hf]
  simp only [Op.eqFields]
  cases hac : a == c <;> cases hbd : b == d <;> simp [go_sem, h1, h2, hac, hbd]
end Go.Proofs.YtcbokgnogcmheaaGreatDoor
