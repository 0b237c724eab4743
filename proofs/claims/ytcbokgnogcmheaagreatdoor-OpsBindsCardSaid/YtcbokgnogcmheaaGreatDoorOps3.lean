/-
  THE TABLE OF OPCODES, asked by number: rowOf.
-/
import Derived.Test.YtcbokgnogcmheaaGreatDoorOps2
namespace Go.Proofs.YtcbokgnogcmheaaGreatDoor
open Go.RowKit

def noRow : OpRow := ⟨⟨#[]⟩, 0, 0, 0, false⟩
def rowAt (op : Int) : OpRow := if 0 ≤ op ∧ op < 67 then opRows.getD op.toNat default else noRow
theorem rowAt_early {i : Nat} (h : i < 38) : rowAt (i : Int) = earlyRows.getD i default := by
  unfold rowAt earlyRows
  rw [if_pos (by omega)]
  simp only [Int.toNat_natCast, List.drop_zero, List.getD_eq_getElem?_getD, List.getElem?_take, if_pos h]
theorem rowAt_later {i : Nat} (h : i < 29) : rowAt ((38 + i : Nat) : Int) = laterRows.getD i default := by
  unfold rowAt laterRows
  rw [if_pos (by omega)]
  simp only [Int.toNat_natCast, List.getD_eq_getElem?_getD, List.getElem?_take, if_pos h, List.getElem?_drop]

theorem code_rowOf (w : World) (op : Int) (h1 : -9223372036854775808 ≤ op) (h2 : op ≤ 9223372036854775807) : Calls Tryz.prog 31 #[.int .i64 op] w fun e w' => e = .returned (.tuple #[.agg (rowCells (rowAt op)).toArray, .bool (decide (0 ≤ op ∧ op < 67))]) ∧ Below w.heap.size w w' := by
  rcases Int.lt_or_le op 0 with h | h
  · have hr : rowAt op = noRow := if_neg (by omega)
    rw [hr]
    have hd : decide (0 ≤ op ∧ op < 67) = false := by simp; omega
    rw [hd]
    go_enter Tryz.func31, Tryz.ntmps31
    go_wp2
    exact ret_ct rfl rfl (blk_new _ _) Tryz.underlying97 rfl size_row rfl ⟨rfl, (Below.refl _ _).alloc (Nat.le_refl _) _⟩
  rcases Int.lt_or_le op 67 with h' | h'
  rotate_left
  · have hr : rowAt op = noRow := if_neg (by omega)
    rw [hr]
    have hd : decide (0 ≤ op ∧ op < 67) = false := by simp; omega
    rw [hd]
    go_enter Tryz.func31, Tryz.ntmps31
    go_wp2
    exact ret_ct rfl rfl (blk_new _ _) Tryz.underlying97 rfl size_row rfl ⟨rfl, (Below.refl _ _).alloc (Nat.le_refl _) _⟩
  have hd : decide (0 ≤ op ∧ op < 67) = true := by simp; omega
  rw [hd]
  obtain ⟨n, rfl⟩ := Int.eq_ofNat_of_zero_le h
  rcases Nat.lt_or_ge n 38 with hn | hn
  · rw [rowAt_early hn]
    have hc := code_early (hi := hn)
    rcases hr : earlyRows.getD n default with ⟨nm, k, t, g, m⟩
    rw [hr] at hc
    go_enter Tryz.func31, Tryz.ntmps31
    go_wp2_with (go_at_call 50; go_loud (refine (hc _).mono ?_; rintro e w' ⟨rfl, hb⟩; have hR := below_blk hb (Nat.le_refl _) (blk_new _ _); obtain ⟨c0, c1, c2, c3, c4, f0, f1, f2, f3, f4⟩ := at5 hR; simp only [rowCells]))
    exact ret_ct rfl rfl (put5 hR) Tryz.underlying97 rfl size_row rfl ⟨rfl, below_put5 (((Below.refl _ _).alloc (Nat.le_refl _) _).trans (hb.mono (by simp))) (Nat.le_refl _)⟩
  · obtain ⟨i, rfl⟩ := Nat.exists_eq_add_of_le hn
    have hn : i < 29 := by omega
    rw [rowAt_later hn]
    have hc := code_later (hi := hn)
    rcases hr : laterRows.getD i default with ⟨nm, k, t, g, m⟩
    rw [hr] at hc
    go_enter Tryz.func31, Tryz.ntmps31
    go_wp2_with (go_at_call 51; go_loud (refine (hc _).mono ?_; rintro e w' ⟨rfl, hb⟩; have hR := below_blk hb (Nat.le_refl _) (blk_new _ _); obtain ⟨c0, c1, c2, c3, c4, f0, f1, f2, f3, f4⟩ := at5 hR; simp only [rowCells]))
    exact ret_ct rfl rfl (put5 hR) Tryz.underlying97 rfl size_row rfl ⟨rfl, below_put5 (((Below.refl _ _).alloc (Nat.le_refl _) _).trans (hb.mono (by simp))) (Nat.le_refl _)⟩
end Go.Proofs.YtcbokgnogcmheaaGreatDoor
