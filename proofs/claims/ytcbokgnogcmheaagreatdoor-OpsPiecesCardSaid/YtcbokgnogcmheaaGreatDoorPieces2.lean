/-
  OPSPIECES, walked.
-/
import Derived.Test.YtcbokgnogcmheaaGreatDoorWorks
import Derived.Test.YtcbokgnogcmheaaGreatDoorPlain

import Derived.Deep.DeepCutAuto
import Derived.IntWalk
namespace Go.Proofs.YtcbokgnogcmheaaGreatDoor
open Go.RowKit
set_option linter.unusedVariables false

/-- The text that the law takes: its first 4096 bytes. -/
def headOf (s : ByteArray) : ByteArray := if s.size ≤ 4096 then s else s.extract 0 4096
theorem nil_prg (w : World) : PrgAt (fun _ => True) w none none ⟨[], []⟩ := ⟨Rd.nil _ _ _ _, [], Rd.nil _ _ _ _, rfl, by simp, fun i f h => by simp at h⟩
theorem made_big (w : World) : Calls Tryz.prog 7 #[.agg #[.slice none 0 0, .slice none 0 0, .slice none 0 0, .slice none 0 0, .int .i64 1048576, .int .i64 0]] w fun e w' =>
      ∃ wb own cs fs, e = .returned (.pointer (some ⟨wb, 0, none⟩)) ∧ WAt own w' wb cs fs [] 1048576 0 [] ∧ (∀ k, k < w.heap.size → own k = 0) ∧ Below w.heap.size w w' := by
  refine (made_none (nil_prg w) (c := 0) (c' := 0) (by decide) (by decide) (by simp) (l := []) (At := none) (ct := 0) (c0 := 0) (Rd.nil _ _ _ _) (by simp) (by decide) 1048576 0).mono ?_
  rintro e w' ⟨wb, own, A2, c2, A3, c3, he, hW, hz, hP, hb⟩
  exact ⟨wb, own, _, _, he, hW, hz, hb⟩

theorem WAt.add {own own' : Nat → Nat} {w w' : World} {wb hb ib : Nat} {cs fs : Value} {items' : List ByteArray} {bud sp : Int} {ts : List Thing} (h6 : own wb = 6) (hW : w.heap[wb]? = some (.cells #[cs, fs, .pointer (some ⟨hb, 0, none⟩), .pointer (some ⟨ib, 0, none⟩)] 37 (0, 0)))
    (hH : HeapAt own w hb bud sp ts) (hI : IndexAt own' w' ib items') (hf : Fr (isIdx own) w w') (ht : Tidy own' w') (hx : Ext own own' w) : WAt own' w' wb cs fs items' bud sp ts ∧ Stp own own' w w' := by
  refine ⟨⟨(hx _ (lt_of_block hW)).trans h6, ht, hb, ib, hf.same hW (by unfold isIdx; omega), hH.frame hf (fun k hk hi => ⟨?_, hx k hk⟩), hI⟩, hf.mono (fun k _ e => by unfold isIdx at e; omega), hx, ht⟩
  unfold isIdx; unfold isHeap at hi; omega
theorem Add_first {own : Nat → Nat} {w : World} {ib : Nat} (h : IndexAt own w ib []) (hT : Tidy own w) (s : ByteArray) :
    Calls Tryz.prog 8 #[.pointer (some ⟨ib, 0, none⟩), .string s] w fun e w' => ∃ own', e = .returned (.int .i64 0) ∧ IndexAt own' w' ib [s] ∧ Fr (isIdx own) w w' ∧ Tidy own' w' ∧ Ext own own' w := by
  have h := Intern_Add h hT s (by decide)
  have e1 : addT [] s = [s] := by simp [addT]
  rw [e1] at h
  simpa using h
theorem stp_under {own own' : Nat → Nat} {w W W' : World} {wb : Nat} {cs fs : Value} {items : List ByteArray} {bud sp : Int} {ts : List Thing} (h : WAt own w wb cs fs items bud sp ts) (hb : Below w.heap.size w W) (st : Stp own own' W W') : Stp own own' w W' := (h.stp hb).trans st
theorem below_step {w0 W W1 : World} (h : Below w0.heap.size w0 W) (hb : Below W.heap.size W W1) : Below w0.heap.size w0 W1 := h.trans (hb.mono h.size)
theorem a_far {w : World} {ab xb : Nat} {x y u v : Value} {t : TypeId} (h : w.heap[ab]? = some (.cells #[x, y] t (0, 0))) (hne : ab ≠ xb) : ((w.setCell ⟨xb, 0, none⟩ u).setCell ⟨xb, 1, none⟩ v).cell? ⟨ab, 0, none⟩ = some x ∧ ((w.setCell ⟨xb, 0, none⟩ u).setCell ⟨xb, 1, none⟩ v).cell? ⟨ab, 1, none⟩ = some y := by
  have h2 := blk_far (blk_far h (p := ⟨xb, 0, none⟩) hne u) (p := ⟨xb, 1, none⟩) hne v
  exact ⟨(at2 h2).1, (at2 h2).2.1⟩
theorem piece_cut {own : Nat → Nat} {w W : World} {wb g : Nat} {cs fs : Value} {items : List ByteArray} {sp : Int} (h : WAt own w wb cs fs items 1048576 sp []) (hsp : 0 ≤ sp) (hsp2 : sp ≤ 100000) (hlen : items.length ≤ 4294967296) {s : ByteArray} (ht : textOf items (4, 0) = some s) (hs : s.size ≤ 4096)
    (lo hi : Int) (h0 : 0 ≤ lo) (h1 : lo ≤ hi) (h2 : hi ≤ s.size) (hb : Below w.heap.size w W) (hg : W.heap[g]? = some (.cells #[.int .i64 4, .int .i64 0, .int .i64 2, .int .i64 lo, .int .i64 2, .int .i64 hi] 40 (0, 0))) :
    Calls Tryz.prog 9 #[.pointer (some ⟨wb, 0, none⟩), .agg #[.int .i64 39, .int .i64 0], .slice (some ⟨g, 0, none⟩) 3 3] W fun e w' =>
      ∃ own', e = .returned (.tuple #[.agg #[.int .i64 4, .int .i64 ((addT items (s.extract lo.toNat hi.toNat)).idxOf (s.extract lo.toNat hi.toNat))], .int .i64 0, .bool true]) ∧ WAt own' w' wb cs fs (addT items (s.extract lo.toNat hi.toNat)) 1048576 (sp + (1 + (hi - lo))) [] ∧ Stp own own' w w' ∧ Stp own own' W w' := by
  obtain ⟨a, rfl⟩ := Int.eq_ofNat_of_zero_le h0
  obtain ⟨b, rfl⟩ := Int.eq_ofNat_of_zero_le (by omega : 0 ≤ hi)
  refine (Apply_cut (c := 3) (h.below hb) hsp (by omega) (by decide) (by decide) hlen (args_block (vs := [(4, 0), (2, (a : Int)), (2, (b : Int))]) hg) ht (by omega) (by omega) (by omega) (by omega)).mono ?_
  rintro e w' ⟨own', he, hW, st⟩
  exact ⟨own', he, hW, stp_under h hb st, st⟩
theorem first_add {items : List ByteArray} {s : ByteArray} (h : items[0]? = some s) (x : ByteArray) : (addT items x)[0]? = some s := by
  unfold addT
  split
  · exact h
  · cases items with
    | nil => simp at h
    | cons y l => simpa using h
theorem piece_cat {own : Nat → Nat} {w W : World} {wb g : Nat} {cs fs : Value} {items : List ByteArray} {sp : Int} (h : WAt own w wb cs fs items 1048576 sp []) (hsp : 0 ≤ sp) (hsp2 : sp ≤ 100000) (hlen : items.length ≤ 4294967296) {i j : Nat} {x y : ByteArray} (hx : textOf items (4, (i : Int)) = some x) (hy : textOf items (4, (j : Int)) = some y) (hs : x.size + y.size ≤ 4096)
    (hb : Below w.heap.size w W) (hg : W.heap[g]? = some (.cells #[.int .i64 4, .int .i64 i, .int .i64 4, .int .i64 j] 40 (0, 0))) :
    Calls Tryz.prog 9 #[.pointer (some ⟨wb, 0, none⟩), .agg #[.int .i64 38, .int .i64 0], .slice (some ⟨g, 0, none⟩) 2 2] W fun e w' =>
      ∃ own', e = .returned (.tuple #[.agg #[.int .i64 4, .int .i64 ((addT items (x ++ y)).idxOf (x ++ y))], .int .i64 0, .bool true]) ∧ WAt own' w' wb cs fs (addT items (x ++ y)) 1048576 (sp + (1 + (x ++ y).size)) [] ∧ Stp own own' w w' ∧ Stp own own' W w' := by
  refine (Apply_cat (c := 2) (h.below hb) hsp (by omega) (by decide) (by decide) hlen (args_block (vs := [(4, (i : Int)), (4, (j : Int))]) hg) hx hy (by omega) (by omega)).mono ?_
  rintro e w' ⟨own', he, hW, st⟩
  exact ⟨own', he, hW, stp_under h hb st, st⟩
theorem piece_len {own : Nat → Nat} {w W : World} {wb g : Nat} {cs fs : Value} {items : List ByteArray} {sp : Int} (h : WAt own w wb cs fs items 1048576 sp []) {i : Nat} {x : ByteArray} (hx : textOf items (4, (i : Int)) = some x)
    (hb : Below w.heap.size w W) (hg : W.heap[g]? = some (.cells #[.int .i64 4, .int .i64 i] 40 (0, 0))) :
    Calls Tryz.prog 9 #[.pointer (some ⟨wb, 0, none⟩), .agg #[.int .i64 52, .int .i64 0], .slice (some ⟨g, 0, none⟩) 1 1] W fun e w' =>
      ∃ own', e = .returned (.tuple #[.agg #[.int .i64 2, .int .i64 x.size], .int .i64 0, .bool true]) ∧ WAt own' w' wb cs fs items 1048576 sp [] ∧ Stp own own' w w' ∧ Stp own own' W w' := by
  refine (Apply_len (c := 1) (h.below hb) (args_block (vs := [(4, (i : Int))]) hg) hx).mono ?_
  rintro e w' ⟨own', he, hW, st⟩
  exact ⟨own', he, hW, stp_under h hb st, st⟩
theorem first_text {items : List ByteArray} {s : ByteArray} (h : items[0]? = some s) : textOf items (4, 0) = some s := h
theorem addT_length (items : List ByteArray) (x : ByteArray) : (addT items x).length ≤ items.length + 1 := by
  unfold addT
  split <;> simp
theorem piece_cat0 {own : Nat → Nat} {w W : World} {wb g : Nat} {cs fs : Value} {items : List ByteArray} {sp : Int} (h : WAt own w wb cs fs items 1048576 sp []) (hsp : 0 ≤ sp) (hsp2 : sp ≤ 100000) (hlen : items.length ≤ 4294967296) {i j : Nat} {x y s : ByteArray} (hx : textOf items (4, (i : Int)) = some x) (hy : textOf items (4, (j : Int)) = some y) (hs : x.size + y.size ≤ 4096) (hxy : x ++ y = s) (hf : items[0]? = some s)
    (hb : Below w.heap.size w W) (hg : W.heap[g]? = some (.cells #[.int .i64 4, .int .i64 i, .int .i64 4, .int .i64 j] 40 (0, 0))) :
    Calls Tryz.prog 9 #[.pointer (some ⟨wb, 0, none⟩), .agg #[.int .i64 38, .int .i64 0], .slice (some ⟨g, 0, none⟩) 2 2] W fun e w' =>
      ∃ own', e = .returned (.tuple #[.agg #[.int .i64 4, .int .i64 0], .int .i64 0, .bool true]) ∧ WAt own' w' wb cs fs items 1048576 (sp + (1 + s.size)) [] ∧ Stp own own' w w' ∧ Stp own own' W w' := by
  have h1 := piece_cat h hsp hsp2 hlen hx hy hs hb hg
  rw [hxy, first_same hf, first_idx hf] at h1
  simpa using h1
theorem cells_at {W : World} {b : Nat} {x y : Value} {t : TypeId} (h : W.heap[b]? = some (.cells #[x, y] t (0, 0))) : W.cell? ⟨b, 0, none⟩ = some x ∧ W.cell? ⟨b, 1, none⟩ = some y := ⟨(at2 h).1, (at2 h).2.1⟩
theorem keep2 {own own' : Nat → Nat} {w W : World} {b : Nat} {x y : Value} {t : TypeId} (h : Stp own own' w W) (hb : w.heap[b]? = some (.cells #[x, y] t (0, 0))) (ho : own b = 0) : W.heap[b]? = some (.cells #[x, y] t (0, 0)) ∧ own' b = 0 := ⟨h.blk hb ho, h.own0 (lt_of_block hb) ho⟩
/-- The cells of the text's value lie at ab, whatever comes. -/
theorem a_keep {own own' : Nat → Nat} {w0 W : World} {ab : Nat} {x y : Int} (ha : w0.heap[ab]? = some (.cells #[.int .i64 x, .int .i64 y] 40 (0, 0))) (h0 : own ab = 0) (h : Stp own own' w0 W) : W.cell? ⟨ab, 0, none⟩ = some (.int .i64 x) ∧ W.cell? ⟨ab, 1, none⟩ = some (.int .i64 y) := by
  have h1 := h.blk ha h0
  exact ⟨(at2 h1).1, (at2 h1).2.1⟩

set_option maxRecDepth 8000 in
set_option maxHeartbeats 4000000 in
theorem pieces_any (w : World) (s0 : ByteArray) (k : Int) (hs0 : s0.size ≤ 140737488351232) (hk1 : -9223372036854775808 ≤ k) (hk2 : k ≤ 9223372036854775807) :
    Calls Tryz.prog 3 #[.string s0, .int .i64 k] w fun e w' => e = .returned (.bool true) ∧ Below w.heap.size w w' := by
  go_enter Tryz.func3, Tryz.ntmps3
  go_upto_if 23 with (go_at_call 5; go_loud (refine (works _).mono ?_; rintro e w1 ⟨rfl, hb1⟩))
  go_cut [0] (fun v wx => ∃ s : ByteArray, v = .string s ∧ s.size ≤ 4096 ∧ Below w.heap.size w wx)
  case first =>
    by_cases hl : s0.size ≤ 4096
    · have hl1 : (s0.size : Int) ≤ 4096 := by omega
      go_wp2_with fail
      go_meet
      exact ⟨s0, rfl, hl, hb1⟩
    · have hl1 : (4096 : Int) < s0.size := by omega
      have hl2 : (4096 : Int) ≤ s0.size := by omega
      go_wp2_with fail
      go_meet
      exact ⟨_, rfl, by simp only [ByteArray.size_extract]; omega, hb1⟩
  case rest =>
  obtain ⟨w1, hw1⟩ : ∃ w1, w1 = wc := ⟨_, rfl⟩
  subst hw1
  obtain ⟨s, rfl, hs, hb1⟩ := hcut
  have hsI : (s.size : Int) ≤ 4096 := by omega
  clear hs0
  go_upto_region 10 with (first
    | (go_at_call 6; go_loud (refine (Pick _ k _ (by omega) (by omega)).mono ?_; rintro e w2 ⟨r, hr0, hr1, rfl, rfl⟩; obtain ⟨n, rfl⟩ := Int.eq_ofNat_of_zero_le hr0))
    | (go_at_call 7; go_loud (refine (made_big _).mono ?_; rintro e w3 ⟨wb, own, cs, fs, rfl, hW3, hz3, hb3⟩; have hW3' := hW3; obtain ⟨h6, hT, hb, ib, hBl, hH, hI⟩ := hW3'; have k3 := cell_of_blk hBl 3; simp only [List.getElem?_toArray, List.getElem?_cons_zero, List.getElem?_cons_succ] at k3; have hAdd := aside (Add_first hI hT s); clear hI))
    | (go_at_call 8; go_loud (refine hAdd.out.mono ?_; rintro e w4 ⟨own4, rfl, hI4, hf4, hT4, hx4⟩)))
  have hn : n ≤ s.size := by omega
  obtain ⟨hW4, st4⟩ := WAt.add h6 hBl hH hI4 hf4 hT4 hx4
  have ha0 := blk_new w4 (.cells #[.int .i64 4, .int .i64 0] 40)
  have hW5 := hW4.below (below_alloc1 w4 (.cells #[.int .i64 4, .int .i64 0] 40))
  have hab : own4 w4.heap.size = 0 := hT4 _ (Nat.le_refl _)
  have st5 : Stp own own4 w3 (w4.alloc (.cells #[.int .i64 4, .int .i64 0] 40)) := st4.trans (hW4.stp (below_alloc1 w4 _))
  have hz5 : ∀ j, j < w1.heap.size → own4 j = 0 := fun j hj => (hx4 j (Nat.lt_of_lt_of_le hj hb3.size)).trans (hz3 j hj)
  have hB5 : Below w.heap.size w (w4.alloc (.cells #[.int .i64 4, .int .i64 0] 40)) := (hb1.trans (hb3.mono hb1.size)).trans (st5.below (Nat.le_trans hb1.size hb3.size) (fun j hj => hz3 j (Nat.lt_of_lt_of_le hj hb1.size)))
  have hz6 : ∀ j, j < w.heap.size → own4 j = 0 := fun j hj => hz5 j (Nat.lt_of_lt_of_le hj hb1.size)
  have hw5 : w.heap.size ≤ (w4.alloc (.cells #[.int .i64 4, .int .i64 0] 40)).heap.size := hB5.size
  clear h6 hT hBl hH hI4 hf4 hT4 hx4 hW4 st4 st5 k3 hAdd hz3 hz5 hb1 hb3 hW3
  generalize hab' : w4.heap.size = ab at *
  generalize w4.alloc (.cells #[.int .i64 4, .int .i64 0] 40) = w5 at *
  clear hab'
  have ac0 := (at2 ha0).1
  have ac1 := (at2 ha0).2.1
  have HW5 := aside hW5
  have HA5 := aside ha0
  have HAB5 := aside hab
  clear hW5 ha0 hab
  go_cut [7, 8, 9] (fun x t ok wx => ∃ (xb : Nat) (own' : Nat → Nat), x = .pointer (some ⟨xb, 0, none⟩) ∧ t = .int .i64 0 ∧ ok = .bool true ∧ wx.heap[xb]? = some (.cells #[.int .i64 4, .int .i64 ((addT [s] (s.extract (0 : Int).toNat (n : Int).toNat)).idxOf (s.extract (0 : Int).toNat (n : Int).toNat))] 40 (0, 0)) ∧ own' xb = 0 ∧
    WAt own' wx wb cs fs (addT [s] (s.extract (0 : Int).toNat (n : Int).toNat)) 1048576 (0 + (1 + ((n : Int) - 0))) [] ∧ Stp own4 own' w5 wx)
  case first =>
    go_region_held3 (fun W => W.cell? ⟨ab, 0, none⟩ = some (.int .i64 4) ∧ W.cell? ⟨ab, 1, none⟩ = some (.int .i64 0))
      (first
        | (refine a_keep HA5.out HAB5.out (HW5.out.stp ?_); ((repeat (first | exact Below.refl _ _ | assumption | refine Below.drew ?_ | refine Below.alloc ?_ (by first | exact Nat.le_refl _ | exact q75.size | exact q65.size | (simp; done) | (simp; omega) | (have := q75.size; simp; omega) | (have := q65.size; simp; omega)) _)); done))
        | exact a_keep HA5.out HAB5.out st
        | exact a_keep HA5.out HAB5.out (st.trans (hW9.stp (below_alloc1 _ _)))
        | (refine a_far (st.blk HA5.out HAB5.out) ?_; (have := lt_of_block HA5.out; have := q65.size; have := q75.size; omega)))
      (first
        | (go_at_call_of 10 (Value.int IntKind.i64 0); (refine (whole _ 0).mono ?_; rintro e w65 ⟨rfl, hb6⟩; unfold vg; have q65 : Below w5.heap.size w5 w65 := below_step (by ((repeat (first | exact Below.refl _ _ | assumption | refine Below.drew ?_ | refine Below.alloc ?_ (by first | exact Nat.le_refl _ | exact q75.size | exact q65.size | (simp; done) | (simp; omega) | (have := q75.size; simp; omega) | (have := q65.size; simp; omega)) _)); done)) hb6; (try (have z65 := below_blk hb6 (Nat.le_refl _) (blk_new w5 (.cells #[.int .i64 0, .int .i64 0] 40))))))
        | (go_at_call_of 10 (Value.int IntKind.i64 n); (refine (whole _ n).mono ?_; rintro e w75 ⟨rfl, hb7⟩; unfold vg; have q75 : Below w5.heap.size w5 w75 := below_step (by ((repeat (first | exact Below.refl _ _ | assumption | refine Below.drew ?_ | refine Below.alloc ?_ (by first | exact Nat.le_refl _ | exact q75.size | exact q65.size | (simp; done) | (simp; omega) | (have := q75.size; simp; omega) | (have := q65.size; simp; omega)) _)); done)) hb7; (first | (have z75 := below_blk hb7 (Nat.le_refl _) z65) | (have z75 := below_blk hb7 (Nat.le_refl _) (blk_new w65 (.cells #[.int .i64 0, .int .i64 0] 40))) | skip)))
        | (go_at_call 9; go_loud (refine (piece_cut HW5.out (by decide) (by decide) (by simp) (by simp [textOf, textAt]) hs 0 n (by decide) (by omega) (by omega) (by ((repeat (first | exact Below.refl _ _ | assumption | refine Below.drew ?_ | refine Below.alloc ?_ (by first | exact Nat.le_refl _ | exact q75.size | exact q65.size | (simp; done) | (simp; omega) | (have := q75.size; simp; omega) | (have := q65.size; simp; omega)) _)); done)) (by first | exact blk_new w75 _ | exact heap_alloc2_new w75 _ _ | exact heap_alloc2_old w75 _ _)).mono ?_; rintro e w95 ⟨own95, rfl, hW9, st, st9⟩; (first | (have hx := st9.blk (blk_alloc z75 _) (HW5.out.tidy _ (by have := q65.size; have := q75.size; omega)); obtain ⟨x0, x1, xf0, xf1⟩ := at2 hx) | (have hx := st9.blk (heap_alloc2_new w75 (.cells #[.int .i64 4, .int .i64 0, .int .i64 2, .int .i64 0, .int .i64 2, .int .i64 n] 40) (.cells #[.int .i64 0, .int .i64 0] 40)) (HW5.out.tidy _ (by have := q65.size; have := q75.size; omega)); obtain ⟨x0, x1, xf0, xf1⟩ := at2 hx) | (have hx := st9.blk (heap_alloc2_old w75 (.cells #[.int .i64 0, .int .i64 0] 40) (.cells #[.int .i64 4, .int .i64 0, .int .i64 2, .int .i64 0, .int .i64 2, .int .i64 n] 40)) (HW5.out.tidy _ (by have := q65.size; have := q75.size; omega)); obtain ⟨x0, x1, xf0, xf1⟩ := at2 hx) | skip))))
    all_goals go_wp2_with fail
    all_goals go_meet
    all_goals first
      | exact ⟨_, own95, rfl, rfl, rfl, blk_new w95 _, hW9.tidy _ (Nat.le_refl _), hW9.below (below_alloc1 _ _), st.trans (hW9.stp (below_alloc1 _ _))⟩
      | exact ⟨_, own95, rfl, rfl, rfl, put2 hx, st9.own0 (lt_of_block (blk_alloc z75 _)) (HW5.out.tidy _ (by have := q65.size; have := q75.size; omega)), fin_world hW9 st (by have := q65.size; have := q75.size; omega) (st9.own0 (lt_of_block (blk_alloc z75 _)) (HW5.out.tidy _ (by have := q65.size; have := q75.size; omega))) (Fr.put2 (Fr.refl _ _) (.inl rfl))⟩
      | exact ⟨_, own95, rfl, rfl, rfl, put2 hx, st9.own0 (lt_of_block (heap_alloc2_new w75 (.cells #[.int .i64 4, .int .i64 0, .int .i64 2, .int .i64 0, .int .i64 2, .int .i64 n] 40) (.cells #[.int .i64 0, .int .i64 0] 40))) (HW5.out.tidy _ (by have := q65.size; have := q75.size; omega)), fin_world hW9 st (by have := q65.size; have := q75.size; omega) (st9.own0 (lt_of_block (heap_alloc2_new w75 (.cells #[.int .i64 4, .int .i64 0, .int .i64 2, .int .i64 0, .int .i64 2, .int .i64 n] 40) (.cells #[.int .i64 0, .int .i64 0] 40))) (HW5.out.tidy _ (by have := q65.size; have := q75.size; omega))) (Fr.put2 (Fr.refl _ _) (.inl rfl))⟩
      | exact ⟨_, own95, rfl, rfl, rfl, put2 hx, st9.own0 (lt_of_block (heap_alloc2_old w75 (.cells #[.int .i64 0, .int .i64 0] 40) (.cells #[.int .i64 4, .int .i64 0, .int .i64 2, .int .i64 0, .int .i64 2, .int .i64 n] 40))) (HW5.out.tidy _ (by have := q65.size; have := q75.size; omega)), fin_world hW9 st (by have := q65.size; have := q75.size; omega) (st9.own0 (lt_of_block (heap_alloc2_old w75 (.cells #[.int .i64 0, .int .i64 0] 40) (.cells #[.int .i64 4, .int .i64 0, .int .i64 2, .int .i64 0, .int .i64 2, .int .i64 n] 40))) (HW5.out.tidy _ (by have := q65.size; have := q75.size; omega))) (Fr.put2 (Fr.refl _ _) (.inl rfl))⟩

  case rest =>
  obtain ⟨w10, hw10⟩ : ∃ w10, w10 = wc := ⟨_, rfl⟩
  subst hw10
  obtain ⟨xb, own10, rfl, rfl, rfl, hx10, hxo10, hW10, st10⟩ := hcut
  have ha10 := st10.blk HA5.out HAB5.out
  have HAB10 := aside (st10.own0 (lt_of_block HA5.out) HAB5.out)
  have HW10 := aside hW10
  have HA10 := aside ha10
  have HX10 := aside hx10
  have HXO10 := aside hxo10
  have HST10 := aside st10
  have ac0 := (at2 ha10).1
  have ac1 := (at2 ha10).2.1
  clear hW10 ha10 hx10 hxo10 st10
  go_upto_region 11 with fail
  go_cut [10, 11, 12] (fun x t ok wx => ∃ (xb : Nat) (own' : Nat → Nat), x = .pointer (some ⟨xb, 0, none⟩) ∧ t = .int .i64 0 ∧ ok = .bool true ∧ wx.heap[xb]? = some (.cells #[.int .i64 4, .int .i64 ((addT (addT [s] (s.extract (0 : Int).toNat (n : Int).toNat)) (s.extract (n : Int).toNat (s.size : Int).toNat)).idxOf (s.extract (n : Int).toNat (s.size : Int).toNat))] 40 (0, 0)) ∧ own' xb = 0 ∧
    WAt own' wx wb cs fs (addT (addT [s] (s.extract (0 : Int).toNat (n : Int).toNat)) (s.extract (n : Int).toNat (s.size : Int).toNat)) 1048576 ((0 + (1 + ((n : Int) - 0))) + (1 + ((s.size : Int) - n))) [] ∧ Stp own10 own' w10 wx)
  case first =>
    go_region_held3 (fun W => W.cell? ⟨ab, 0, none⟩ = some (.int .i64 4) ∧ W.cell? ⟨ab, 1, none⟩ = some (.int .i64 0))
      (first
        | (refine a_keep HA10.out HAB10.out (HW10.out.stp ?_); ((repeat (first | exact Below.refl _ _ | assumption | refine Below.drew ?_ | refine Below.alloc ?_ (by first | exact Nat.le_refl _ | exact q710.size | exact q610.size | (simp; done) | (simp; omega) | (have := q710.size; simp; omega) | (have := q610.size; simp; omega)) _)); done))
        | exact a_keep HA10.out HAB10.out st
        | exact a_keep HA10.out HAB10.out (st.trans (hW9.stp (below_alloc1 _ _)))
        | (refine a_far (st.blk HA10.out HAB10.out) ?_; (have := lt_of_block HA10.out; have := q610.size; have := q710.size; omega)))
      (first
        | (go_at_call_of 10 (Value.int IntKind.i64 n); (refine (whole _ n).mono ?_; rintro e w610 ⟨rfl, hb6⟩; unfold vg; have q610 : Below w10.heap.size w10 w610 := below_step (by ((repeat (first | exact Below.refl _ _ | assumption | refine Below.drew ?_ | refine Below.alloc ?_ (by first | exact Nat.le_refl _ | exact q710.size | exact q610.size | (simp; done) | (simp; omega) | (have := q710.size; simp; omega) | (have := q610.size; simp; omega)) _)); done)) hb6; (try (have z610 := below_blk hb6 (Nat.le_refl _) (blk_new w10 (.cells #[.int .i64 0, .int .i64 0] 40))))))
        | (go_at_call_of 10 (Value.int IntKind.i64 s.size); (refine (whole _ s.size).mono ?_; rintro e w710 ⟨rfl, hb7⟩; unfold vg; have q710 : Below w10.heap.size w10 w710 := below_step (by ((repeat (first | exact Below.refl _ _ | assumption | refine Below.drew ?_ | refine Below.alloc ?_ (by first | exact Nat.le_refl _ | exact q710.size | exact q610.size | (simp; done) | (simp; omega) | (have := q710.size; simp; omega) | (have := q610.size; simp; omega)) _)); done)) hb7; (first | (have z710 := below_blk hb7 (Nat.le_refl _) z610) | (have z710 := below_blk hb7 (Nat.le_refl _) (blk_new w610 (.cells #[.int .i64 0, .int .i64 0] 40))) | skip)))
        | (go_at_call 9; go_loud (refine (piece_cut HW10.out (by omega) (by omega) (Nat.le_trans (addT_length _ _) (by simp)) (first_text (first_add rfl _)) hs n s.size (by omega) (by omega) (by omega) (by ((repeat (first | exact Below.refl _ _ | assumption | refine Below.drew ?_ | refine Below.alloc ?_ (by first | exact Nat.le_refl _ | exact q710.size | exact q610.size | (simp; done) | (simp; omega) | (have := q710.size; simp; omega) | (have := q610.size; simp; omega)) _)); done)) (by first | exact blk_new w710 _ | exact heap_alloc2_new w710 _ _ | exact heap_alloc2_old w710 _ _)).mono ?_; rintro e w910 ⟨own910, rfl, hW9, st, st9⟩; (first | (have hx := st9.blk (blk_alloc z710 _) (HW10.out.tidy _ (by have := q610.size; have := q710.size; omega)); obtain ⟨x0, x1, xf0, xf1⟩ := at2 hx) | (have hx := st9.blk (heap_alloc2_new w710 (.cells #[.int .i64 4, .int .i64 0, .int .i64 2, .int .i64 n, .int .i64 2, .int .i64 s.size] 40) (.cells #[.int .i64 0, .int .i64 0] 40)) (HW10.out.tidy _ (by have := q610.size; have := q710.size; omega)); obtain ⟨x0, x1, xf0, xf1⟩ := at2 hx) | (have hx := st9.blk (heap_alloc2_old w710 (.cells #[.int .i64 0, .int .i64 0] 40) (.cells #[.int .i64 4, .int .i64 0, .int .i64 2, .int .i64 n, .int .i64 2, .int .i64 s.size] 40)) (HW10.out.tidy _ (by have := q610.size; have := q710.size; omega)); obtain ⟨x0, x1, xf0, xf1⟩ := at2 hx) | skip))))
    all_goals go_wp2_with fail
    all_goals go_meet
    all_goals first
      | exact ⟨_, own910, rfl, rfl, rfl, blk_new w910 _, hW9.tidy _ (Nat.le_refl _), hW9.below (below_alloc1 _ _), st.trans (hW9.stp (below_alloc1 _ _))⟩
      | exact ⟨_, own910, rfl, rfl, rfl, put2 hx, st9.own0 (lt_of_block (blk_alloc z710 _)) (HW10.out.tidy _ (by have := q610.size; have := q710.size; omega)), fin_world hW9 st (by have := q610.size; have := q710.size; omega) (st9.own0 (lt_of_block (blk_alloc z710 _)) (HW10.out.tidy _ (by have := q610.size; have := q710.size; omega))) (Fr.put2 (Fr.refl _ _) (.inl rfl))⟩
      | exact ⟨_, own910, rfl, rfl, rfl, put2 hx, st9.own0 (lt_of_block (heap_alloc2_new w710 (.cells #[.int .i64 4, .int .i64 0, .int .i64 2, .int .i64 n, .int .i64 2, .int .i64 s.size] 40) (.cells #[.int .i64 0, .int .i64 0] 40))) (HW10.out.tidy _ (by have := q610.size; have := q710.size; omega)), fin_world hW9 st (by have := q610.size; have := q710.size; omega) (st9.own0 (lt_of_block (heap_alloc2_new w710 (.cells #[.int .i64 4, .int .i64 0, .int .i64 2, .int .i64 n, .int .i64 2, .int .i64 s.size] 40) (.cells #[.int .i64 0, .int .i64 0] 40))) (HW10.out.tidy _ (by have := q610.size; have := q710.size; omega))) (Fr.put2 (Fr.refl _ _) (.inl rfl))⟩
      | exact ⟨_, own910, rfl, rfl, rfl, put2 hx, st9.own0 (lt_of_block (heap_alloc2_old w710 (.cells #[.int .i64 0, .int .i64 0] 40) (.cells #[.int .i64 4, .int .i64 0, .int .i64 2, .int .i64 n, .int .i64 2, .int .i64 s.size] 40))) (HW10.out.tidy _ (by have := q610.size; have := q710.size; omega)), fin_world hW9 st (by have := q610.size; have := q710.size; omega) (st9.own0 (lt_of_block (heap_alloc2_old w710 (.cells #[.int .i64 0, .int .i64 0] 40) (.cells #[.int .i64 4, .int .i64 0, .int .i64 2, .int .i64 n, .int .i64 2, .int .i64 s.size] 40))) (HW10.out.tidy _ (by have := q610.size; have := q710.size; omega))) (Fr.put2 (Fr.refl _ _) (.inl rfl))⟩

  case rest =>
  obtain ⟨w11, hw11⟩ : ∃ w11, w11 = wc := ⟨_, rfl⟩
  subst hw11
  obtain ⟨yb, own11, rfl, rfl, rfl, hy11, hyo11, hW11, st11⟩ := hcut
  have hx11 := st11.blk HX10.out HXO10.out
  have hxo11 := st11.own0 (lt_of_block HX10.out) HXO10.out
  have ha11 := st11.blk HA10.out HAB10.out
  have hao11 := st11.own0 (lt_of_block HA10.out) HAB10.out
  have tx := text_new [s] (s.extract (0 : Int).toNat (n : Int).toNat)
  have tx2 := text_old tx (s.extract (n : Int).toNat (s.size : Int).toNat)
  have ty := text_new (addT [s] (s.extract (0 : Int).toNat (n : Int).toNat)) (s.extract (n : Int).toNat (s.size : Int).toNat)
  have hxy : s.extract (0 : Int).toNat (n : Int).toNat ++ s.extract (n : Int).toNat (s.size : Int).toNat = s := halves s n
  have hxs : (s.extract (0 : Int).toNat (n : Int).toNat).size = n := by
    simp only [ByteArray.size_extract]
    omega
  have hys : (s.extract (n : Int).toNat (s.size : Int).toNat).size = s.size - n := by
    simp only [ByteArray.size_extract]
    omega
  have hfst : (addT (addT [s] (s.extract (0 : Int).toNat (n : Int).toNat)) (s.extract (n : Int).toNat (s.size : Int).toNat))[0]? = some s := first_add (first_add rfl _) _
  have hl : (addT (addT [s] (s.extract (0 : Int).toNat (n : Int).toNat)) (s.extract (n : Int).toNat (s.size : Int).toNat)).length ≤ 4294967296 := by
    have h1 := addT_length [s] (s.extract (0 : Int).toNat (n : Int).toNat)
    have h2 := addT_length (addT [s] (s.extract (0 : Int).toNat (n : Int).toNat)) (s.extract (n : Int).toNat (s.size : Int).toNat)
    have h3 : [s].length = 1 := rfl
    omega
  clear HX10 HA10 HW10 HAB10 HXO10 tx
  generalize List.idxOf (s.extract (0 : Int).toNat (n : Int).toNat) (addT [s] (s.extract (0 : Int).toNat (n : Int).toNat)) = i at hx11 tx2
  generalize List.idxOf (s.extract (n : Int).toNat (s.size : Int).toNat) (addT (addT [s] (s.extract (0 : Int).toNat (n : Int).toNat)) (s.extract (n : Int).toNat (s.size : Int).toNat)) = j at hy11 ty
  generalize addT (addT [s] (s.extract (0 : Int).toNat (n : Int).toNat)) (s.extract (n : Int).toNat (s.size : Int).toNat) = I at *
  generalize s.extract (0 : Int).toNat (n : Int).toNat = x at *
  generalize s.extract (n : Int).toNat (s.size : Int).toNat = y at *
  have hcat := aside (piece_cat0 hW11 (by omega) (by omega) hl tx2 ty (by omega) hxy hfst (below_alloc1 w11 _) (blk_new w11 _))
  have HTX := aside tx2
  have HST11 := aside st11
  have HXS := aside hxs
  clear hxy hxs hys hfst hl ty tx2 hW11 st11
  obtain ⟨x0, x1⟩ := cells_at hx11
  obtain ⟨y0, y1⟩ := cells_at hy11
  have HX11 := aside (⟨hx11, hxo11⟩ : _ ∧ _)
  have HA11 := aside (⟨ha11, hao11⟩ : _ ∧ _)
  clear hx11 hxo11 ha11 hao11 hy11 hyo11 ac0 ac1
  go_upto_region 13 with (go_at_call 9; go_loud (refine hcat.out.mono ?_; rintro e w12 ⟨own12, rfl, hW12, st12, st12'⟩; clear x0 x1 y0 y1))
  have hz13 := blk_new w12 (.cells #[.int .i64 4, .int .i64 0] 40)
  have hzo13 := hW12.tidy _ (Nat.le_refl _)
  have hx13 := keep2 st12 HX11.out.1 HX11.out.2
  have ha13 := keep2 st12 HA11.out.1 HA11.out.2
  have b13 := below_alloc1 w12 (.cells #[.int .i64 4, .int .i64 0] 40)
  have hW13 := hW12.below b13
  have st13 := st12.trans (hW12.stp b13)
  have hx14 := keep2 (hW12.stp b13) hx13.1 hx13.2
  have ha14 := keep2 (hW12.stp b13) ha13.1 ha13.2
  clear hx13 ha13 hcat b13 hW12 st12 st12'
  generalize w12.heap.size = zb at *
  generalize w12.alloc (.cells #[.int .i64 4, .int .i64 0] 40) = w13 at *
  have hlen := aside (piece_len hW13 HTX.out (below_alloc1 w13 _) (blk_new w13 _))
  obtain ⟨x0, x1⟩ := cells_at hx14.1
  rw [HXS.out] at hlen
  go_upto_region 14 with (go_at_call 9; go_loud (refine hlen.out.mono ?_; rintro e w14 ⟨own14, rfl, hW14, st14, st14'⟩; clear x0 x1))
  have hn15 := blk_new w14 (.cells #[.int .i64 2, .int .i64 n] 40)
  have b15 := below_alloc1 w14 (.cells #[.int .i64 2, .int .i64 n] 40)
  have st15 := st14.trans (hW14.stp b15)
  have hz15 := keep2 st15 hz13 hzo13
  have ha15 := keep2 st15 ha14.1 ha14.2
  have hW15 := hW14.below b15
  have hB15 : Below w.heap.size w (w14.alloc (.cells #[.int .i64 2, .int .i64 n] 40)) := hB5.trans ((((HST10.out.trans HST11.out).trans st13).trans st15).below hw5 hz6)
  have hsp : (0 + (1 + ((n : Int) - 0)) + (1 + ((s.size : Int) - n)) + (1 + (s.size : Int))) = 3 + 2 * (s.size : Int) := by omega
  rw [hsp] at hW15
  clear hx14 ha14 hlen b15 hW14 st14 st14' hz13 hzo13 hW13 st15 st13 hsp HX11 HA11 HST11 HST10
  generalize w14.heap.size = nb at *
  generalize w14.alloc (.cells #[.int .i64 2, .int .i64 n] 40) = w15 at *
  obtain ⟨h6, hT, hb, ib, hBl, hH, hI⟩ := hW15
  have HS : Aside (∀ W, Below w15.heap.size w15 W → W.cell? ⟨zb, 0, none⟩ = some (.int .i64 4) ∧ W.cell? ⟨zb, 1, none⟩ = some (.int .i64 0) ∧ W.cell? ⟨ab, 0, none⟩ = some (.int .i64 4) ∧ W.cell? ⟨ab, 1, none⟩ = some (.int .i64 0) ∧ W.cell? ⟨nb, 0, none⟩ = some (.int .i64 2) ∧ W.cell? ⟨nb, 1, none⟩ = some (.int .i64 n) ∧ W.cell? ⟨wb, 2, none⟩ = some (.pointer (some ⟨hb, 0, none⟩))) := fun W hq => by
    obtain ⟨z0, z1⟩ := cells_at (below_blk hq (Nat.le_refl _) hz15.1)
    obtain ⟨a0, a1⟩ := cells_at (below_blk hq (Nat.le_refl _) ha15.1)
    obtain ⟨n0, n1⟩ := cells_at (below_blk hq (Nat.le_refl _) hn15)
    exact ⟨z0, z1, a0, a1, n0, n1, by simpa using cell_of_blk (below_blk hq (Nat.le_refl _) hBl) 2⟩
  have HSP : Aside (∀ W, Below w15.heap.size w15 W → Calls Tryz.prog 11 #[.pointer (some ⟨hb, 0, none⟩)] W fun e w' => e = .returned (.int .i64 (3 + 2 * (s.size : Int))) ∧ W = w') := fun W hq =>
    Heap_Spent (hH.frame (own' := own14) (Fr.of_below (S := fun _ => False) hq) (fun _ _ _ => ⟨id, rfl⟩))
  clear hz15 ha15 hn15 h6 hT hBl hH hI
  have ve1 := fun W => value_eql W 4 0 4 0
  have ve2 := fun W => value_eql W 2 n 2 n
  go_region_held3 (fun W => W.cell? ⟨zb, 0, none⟩ = some (.int .i64 4) ∧ W.cell? ⟨zb, 1, none⟩ = some (.int .i64 0) ∧ W.cell? ⟨ab, 0, none⟩ = some (.int .i64 4) ∧ W.cell? ⟨ab, 1, none⟩ = some (.int .i64 0) ∧ W.cell? ⟨nb, 0, none⟩ = some (.int .i64 2) ∧ W.cell? ⟨nb, 1, none⟩ = some (.int .i64 n) ∧ W.cell? ⟨wb, 2, none⟩ = some (.pointer (some ⟨hb, 0, none⟩)))
    (first | (refine HS.out _ ?_; ((repeat (first | exact Below.refl _ _ | assumption | refine Below.drew ?_)); done)))
    (first
      | (go_at_call 10; go_loud (refine (whole _ n).mono ?_; rintro e w16 ⟨rfl, hb6⟩; unfold vg; have q16 : Below w15.heap.size w15 w16 := below_step (by ((repeat (first | exact Below.refl _ _ | assumption | refine Below.drew ?_)); done)) hb6))
      | (go_at_call 11; go_loud (refine (HSP.out _ (by ((repeat (first | exact Below.refl _ _ | assumption | refine Below.drew ?_)); done))).mono ?_; rintro e w17 ⟨rfl, rfl⟩)))
  have hwr : (3 + 2 * (s.size : Int) == IntKind.i64.wrap (3 + IntKind.i64.wrap (2 * (s.size : Int)))) = true := by
    rw [IntWalk.i64_in (2 * (s.size : Int)) (by omega), IntWalk.i64_in _ (by omega)]
    simp
  rw [hwr]
  have hfin : Below w.heap.size w w16 := hB15.trans (q16.mono hB15.size)
  clear hwr HS HSP ve1 ve2
  go_wp2_with fail
  go_ret
  exact ⟨rfl, hfin⟩
end Go.Proofs.YtcbokgnogcmheaaGreatDoor
