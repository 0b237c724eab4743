/-
  OPSBINDS, walked.
-/
import Derived.Test.YtcbokgnogcmheaaGreatDoorBinds1
namespace Go.Proofs.YtcbokgnogcmheaaGreatDoor
open Go.RowKit
set_option linter.unusedVariables false
set_option linter.unusedSimpArgs false

theorem kept2 {own own' : Nat → Nat} {w W : World} {b : Nat} {x y : Value} {t : TypeId} (h : Stp own own' w W) (hb : w.heap[b]? = some (.cells #[x, y] t (0, 0))) (ho : own b = 0) : W.heap[b]? = some (.cells #[x, y] t (0, 0)) ∧ own' b = 0 := ⟨h.blk hb ho, h.own0 (lt_of_block hb) ho⟩
theorem nat_le_i64 {n : Nat} (h : n ≤ 60) : (n : Int) ≤ 60 := by omega
theorem made_f (w : World) (n : Int) : Calls Tryz.prog 7 #[.agg #[.slice none 0 0, .slice (some ⟨w.heap.size + 1, 0, none⟩) 1 1, .slice none 0 0, .slice none 0 0, .int .i64 1048576, .int .i64 0]] (fW w n) fun e w' =>
      ∃ wb own cs g o cf, e = .returned (.pointer (some ⟨wb, 0, none⟩)) ∧ WAt own w' wb cs (.slice (some ⟨g, o, none⟩) 1 cf) [] 1048576 0 [] ∧ (∀ k, k < w.heap.size → own k = 0) ∧ own g = 0 ∧ w'.cell? ⟨g, o + 1, none⟩ = some (.int .i64 n) ∧ Below w.heap.size w w' := by
  refine (made_none (fW_prg w n) (c := 0) (c' := 1) (by simp [fPrg]) (by simp [fPrg]) (by intro f hf; simp [fPrg] at hf; subst hf; simp) (l := []) (At := none) (ct := 0) (c0 := 0) (Rd.nil _ _ _ _) (by simp) (by decide) 1048576 0).mono ?_
  rintro e w' ⟨wb, own, A2, c2, A3, c3, he, hW, hz, hP, hb⟩
  obtain ⟨g, o, rfl, hG, hg, hc⟩ := prg_fn hP
  exact ⟨wb, own, _, g, o, c3, he, hW, fun k hk => hz k (Nat.lt_of_lt_of_le hk (fW_below w n).size), hG, hc, (fW_below w n).trans (hb.mono (fW_below w n).size)⟩

/-- What stands all through the law: its world, the function's value, the number of parameters. -/
structure Ctx (w : World) (wb : Nat) (cs : Value) (g o cf : Nat) (n : Int) (fb : Nat) (own : Nat → Nat) (W : World) (sp : Int) (ts : List Thing) : Prop where
  wat : WAt own W wb cs (.slice (some ⟨g, o, none⟩) 1 cf) [] 1048576 sp ts
  fnb : W.heap[fb]? = some (.cells #[.int .i64 5, .int .i64 0] 40 (0, 0))
  fno : own fb = 0
  prm : W.cell? ⟨g, o + 1, none⟩ = some (.int .i64 n)
  prg : own g = 0
  low : Below w.heap.size w W
  old : ∀ k, k < w.heap.size → own k = 0
section
variable {w W W' : World} {wb g o cf fb : Nat} {cs : Value} {n sp sp' : Int} {own own' : Nat → Nat} {ts ts' : List Thing}
theorem Ctx.step (h : Ctx w wb cs g o cf n fb own W sp ts) (hW : WAt own' W' wb cs (.slice (some ⟨g, o, none⟩) 1 cf) [] 1048576 sp' ts') (st : Stp own own' W W') : Ctx w wb cs g o cf n fb own' W' sp' ts' :=
  ⟨hW, st.blk h.fnb h.fno, st.own0 (lt_of_block h.fnb) h.fno, st.fr.cell h.prm (by simp [h.prg]), st.own0 (World.block_lt_of_cell? W _ h.prm) h.prg, h.low.trans (st.below h.low.size h.old), fun k hk => st.own0 (Nat.lt_of_lt_of_le hk h.low.size) (h.old k hk)⟩
theorem Ctx.beside {W8 : World} (h8 : Ctx w wb cs g o cf n fb own W8 sp ts) (h : Ctx w wb cs g o cf n fb own W sp ts) (hf : Fr (W8.heap.size ≤ ·) W W') : Ctx w wb cs g o cf n fb own W' sp ts :=
  ⟨h.wat.frame hf (fun k hk hne => ⟨fun e => hne (h8.wat.tidy k e), rfl⟩) (h.wat.tidy.frame hf.size), hf.same h.fnb (Nat.not_le_of_lt (lt_of_block h8.fnb)), h.fno, hf.cell h.prm (Nat.not_le_of_lt (World.block_lt_of_cell? W8 _ h8.prm)), h.prg,
    h.low.trans (hf.below h.low.size (fun k hk => Nat.not_le_of_lt (Nat.lt_of_lt_of_le hk h8.low.size))), h.old⟩
theorem Rd.step {xs : List Value} {A : Option Addr} {size m : Nat} (h : Rd (fun k => own k = 0) W size A m xs) (st : Stp own own' W W') : Rd (fun k => own' k = 0) W' size A m xs := h.fr st.fr (fun k hk hl => ⟨by simp [hk], st.own0 hl hk⟩)
theorem Ctx.grow (h : Ctx w wb cs g o cf n fb own W sp ts) (hb : Below W.heap.size W W') : Ctx w wb cs g o cf n fb own W' sp ts := h.step (h.wat.below hb) (h.wat.stp hb)
end
set_option maxRecDepth 8000 in
set_option maxHeartbeats 4000000 in
theorem binds_any (w : World) (p : Int) (A B : Option Addr) (ca cb : Nat) (a b : List VV) (hA : Rd (fun _ => True) w 2 A a.length (vvs a)) (hB : Rd (fun _ => True) w 2 B b.length (vvs b)) (hp1 : -9223372036854775808 ≤ p) (hp2 : p ≤ 9223372036854775807) :
    Calls Tryz.prog 4 #[.int .i64 p, .slice A a.length ca, .slice B b.length cb] w fun e w' => e = .returned (.bool true) ∧ Below w.heap.size w w' := by
  have HA := aside hA
  have HB := aside hB
  clear hA hB
  go_enter Tryz.func4, Tryz.ntmps4
  go_upto_region 4 with (first
    | (go_at_call 5; go_loud (refine (works _).mono ?_; rintro e w1 ⟨rfl, hb1⟩))
    | (go_at_call 6; go_loud (refine (Pick _ p 60 (by omega) (by omega)).mono ?_; rintro e w2 ⟨r, hr0, hr1, rfl, rfl⟩; obtain ⟨n, rfl⟩ := Int.eq_ofNat_of_zero_le hr0)))
  by_cases ha : 60 < a.length
  · have q1 : (60 : Int) < a.length := by omega
    go_wp2_with fail
    go_ret
    exact ⟨rfl, hb1⟩
  have q1 : ¬ (60 : Int) < a.length := by omega
  by_cases hb : 60 < b.length
  · have q2 : (60 : Int) < b.length := by omega
    go_wp2_with fail
    go_ret
    exact ⟨rfl, hb1⟩
  have q2 : ¬ (60 : Int) < b.length := by omega
  by_cases hab : 63 < a.length + b.length
  · have q3 : (63 : Int) < (a.length : Int) + b.length := by omega
    go_wp2_with fail
    go_ret
    exact ⟨rfl, hb1⟩
  have q3 : ¬ (63 : Int) < (a.length : Int) + b.length := by omega
  go_upto_region 11 with (go_at_call 7; go_loud (refine (made_f w1 n).mono ?_; rintro e w3 ⟨wb, own, cs, g, o, cf, rfl, hW3, hz3, hg3, hP3, hb3⟩))
  have b4 := below_alloc1 w3 (.cells #[.int .i64 5, .int .i64 0] 40)
  have C4 : Aside (Ctx w wb cs g o cf n w3.heap.size own (w3.alloc (.cells #[.int .i64 5, .int .i64 0] 40)) 0 []) :=
    ⟨hW3.below b4, blk_new _ _, hW3.tidy _ (Nat.le_refl _), below_cell b4 hP3 (World.block_lt_of_cell? w3 _ hP3), hg3, (hb1.trans (hb3.mono hb1.size)).trans (b4.mono (Nat.le_trans hb1.size hb3.size)), fun k hk => hz3 k (Nat.lt_of_lt_of_le hk hb1.size)⟩
  clear b4 hW3 hz3 hg3 hP3 hb3
  generalize w3.heap.size = fb at *
  generalize w3.alloc (.cells #[.int .i64 5, .int .i64 0] 40) = w4 at *
  obtain ⟨v1, t1, sp1, ts1, v2, t2, sp2, ts2, v3, t3, sp3, ts3, h1, h2, h3, hcase⟩ := three wb cs g o cf n a b (by omega) (by omega) (by omega)
  have H1 := aside h1
  have H2 := aside h2
  have H3 := aside h3
  have HC := aside hcase
  clear h1 h2 h3 hcase
  obtain ⟨f0, f1⟩ := cells01 C4.out.fnb
  go_upto_region 12 with (go_at_call 12; go_loud (refine (H1.out own _ A a.length ca C4.out.wat C4.out.prm rfl (rd_src (HA.out.fr (Fr.of_below (S := fun _ => False) C4.out.low) (fun _ _ _ => ⟨id, trivial⟩)))).mono ?_; rintro e w5 ⟨own5, rfl, hW5, st5⟩; unfold vg; have C5 := aside (C4.out.step hW5 st5); clear hW5 st5 f0 f1))
  have b6 := below_alloc1 w5 (.cells #[.int .i64 v1.1, .int .i64 v1.2] 40)
  have C6 := aside (C5.out.grow b6)
  have X6 := aside (show _ ∧ own5 w5.heap.size = 0 from ⟨blk_new w5 (.cells #[.int .i64 v1.1, .int .i64 v1.2] 40), C5.out.wat.tidy _ (Nat.le_refl _)⟩)
  clear b6 C5 C4
  generalize w5.heap.size = xb at *
  generalize w5.alloc (.cells #[.int .i64 v1.1, .int .i64 v1.2] 40) = w6 at *
  obtain ⟨x0, x1⟩ := cells01 X6.out.1
  go_upto_region 13 with (go_at_call 12; go_loud (refine (H2.out own5 _ B b.length cb C6.out.wat C6.out.prm rfl (rd_src (HB.out.fr (Fr.of_below (S := fun _ => False) C6.out.low) (fun _ _ _ => ⟨id, trivial⟩)))).mono ?_; rintro e w7 ⟨own7, rfl, hW7, st7⟩; unfold vg; have C7 := aside (C6.out.step hW7 st7); clear hW7 st7 x0 x1))
  have b8 := below_alloc1 w7 (.cells #[.int .i64 v2.1, .int .i64 v2.2] 40)
  have C8 := aside (C7.out.grow b8)
  have Y8 := aside (show _ ∧ own7 w7.heap.size = 0 from ⟨blk_new w7 (.cells #[.int .i64 v2.1, .int .i64 v2.2] 40), C7.out.wat.tidy _ (Nat.le_refl _)⟩)
  clear b8 C7 C6 X6
  generalize w7.heap.size = yb at *
  generalize w7.alloc (.cells #[.int .i64 v2.1, .int .i64 v2.2] 40) = w8 at *
  obtain ⟨i0, hi0, hz0, hz1, hz2⟩ := info_parts info_value
  go_upto_region 15 with (first
    | (go_at_call 13; go_loud (refine (CopyValues A ca a (HA.out.fr (Fr.of_below (S := fun _ => False) C8.out.low) (fun _ _ _ => ⟨id, trivial⟩)) (by omega)).mono ?_; rintro e w9 ⟨A9, c9, own9, rfl, hR9, hT9, hx9, hb9⟩; have C9 := aside (C8.out.grow hb9)))
    | (at_builtin; go_loud (refine wpList_append_Row rfl _ _ _ rfl own9 1 40 i0 (.agg #[.int .i64 0, .int .i64 0]) 2 16 Tryz.underlying46 hi0 hz0 hz1 hz2 rfl (by decide) _ a.length (vvs a) rfl hR9 B b.length cb (vvs b) rfl (rd_src (HB.out.fr (Fr.of_below (S := fun _ => False) C9.out.low) (fun _ _ _ => ⟨id, trivial⟩))) (vvs_one_cell b) (by unfold maxLen; omega) (by omega) ?_; rintro v10 w10 own10 hr10 hf10 ht10 hx10)))
  obtain ⟨A10, c10, rfl, hc10, hcm10⟩ := hr10.slice
  have hnew : ∀ k, own9 k = 1 → w8.heap.size ≤ k := fun k hk => by
    rcases Nat.lt_or_ge k w8.heap.size with h | h
    · have := hx9 k h
      rw [hk] at this
      cases this
    · exact h
  have f10 : Fr (w8.heap.size ≤ ·) w9 w10 := hf10.mono (fun k _ e => hnew k (hR9.2 k e))
  have C10 := aside (Ctx.beside C8.out C9.out f10)
  have Y10 := aside (show _ ∧ own7 yb = 0 from ⟨f10.same (below_blk hb9 (Nat.le_refl _) Y8.out.1) (Nat.not_le_of_lt (lt_of_block Y8.out.1)), Y8.out.2⟩)
  have AL10 : Aside (Rd (fun k => own7 k = 0) w10 2 A10 (a ++ b).length (vvs (a ++ b))) := by
    obtain ⟨A', c', hv, hR⟩ := rd_of_row (G := fun k => own7 k = 0) hr10 (fun k hk => by
      rcases Nat.lt_or_ge k w9.heap.size with h | h
      · rw [hx10 k h] at hk
        exact C8.out.wat.tidy k (hnew k hk)
      · exact C9.out.wat.tidy k h)
    cases hv
    rw [vvs_append, List.length_append]
    exact hR
  clear hr10 hf10 ht10 hx10 hR9 hT9 hx9 hb9 hnew f10 C8 C9 Y8
  obtain ⟨f0, f1⟩ := cells01 C10.out.fnb
  have HL := aside (show a.length + b.length = (a ++ b).length by simp)
  have HQ := aside (H3.out own7 w10 A10 (a.length + b.length) c10 C10.out.wat C10.out.prm HL.out (by rw [HL.out]; exact rd_src AL10.out))
  go_upto_region 16 with (go_at_call 12; go_loud (refine HQ.out.mono ?_; rintro e w11 ⟨own11, rfl, hW11, st11⟩; unfold vg; have C11 := aside (C10.out.step hW11 st11); have Y11 := aside (kept2 st11 Y10.out.1 Y10.out.2); have AL11 := aside (AL10.out.step st11); clear hW11 st11 f0 f1))
  have b12 := below_alloc1 w11 (.cells #[.int .i64 v3.1, .int .i64 v3.2] 40)
  have C12 := aside (C11.out.grow b12)
  have Z12 := aside (show _ ∧ own11 w11.heap.size = 0 from ⟨blk_new w11 (.cells #[.int .i64 v3.1, .int .i64 v3.2] 40), C11.out.wat.tidy _ (Nat.le_refl _)⟩)
  have Y12 := aside (kept2 (C11.out.wat.stp b12) Y11.out.1 Y11.out.2)
  have AL12 := aside (AL11.out.step (C11.out.wat.stp b12))
  clear b12 C11 C10 Y11 Y10 AL11 AL10
  generalize w11.heap.size = zb at *
  generalize w11.alloc (.cells #[.int .i64 v3.1, .int .i64 v3.2] 40) = w12 at *
  have hw12 : w.heap.size ≤ w12.heap.size := C12.out.low.size
  have hcase := HC.out
  have CC := C12.out
  obtain ⟨h6, hT, hb', ib, hBl, hH, hI⟩ := CC.wat
  have k2 : w12.cell? ⟨wb, 2, none⟩ = some (.pointer (some ⟨hb', 0, none⟩)) := cell_of_blk hBl 2
  have HLen := aside (Heap_Len hH)
  have HHw12 := aside hH
  have HBLw12 := aside hBl
  clear hBl hH hI h6 hT CC H1 H2 H3 HQ HC
  rcases hcase with ⟨hc1, rfl, rfl, hc2⟩ | hcase
  · rw [hc2] at HLen
    go_wp2_with (go_at_call 14; go_loud (refine HLen.out.mono ?_; rintro e w13 ⟨rfl, rfl⟩))
    go_ret
    exact ⟨rfl, C12.out.low⟩
  rcases hcase with ⟨hc1, hc3, rfl, rfl, rfl, hc2⟩ | ⟨hc1, hc3, rfl, rfl, rfl, rfl, rfl, hg1, hg2⟩
  · rw [hc2] at HLen
    go_wp2_with (go_at_call 14; go_loud (refine HLen.out.mono ?_; rintro e w13 ⟨rfl, rfl⟩))
    go_ret
    exact ⟨rfl, C12.out.low⟩
  clear HLen k2
  go_upto_region 22 with fail
  have hlen : (a ++ b).length ≤ 63 := by rw [← HL.out]; omega
  rw [HL.out]
  clear HL
  generalize a ++ b = l at *
  have HOa : Aside (∀ W, Below w12.heap.size w12 W → Calls Tryz.prog 15 #[.pointer (some ⟨hb', 0, none⟩), .int .i64 1] W fun e w' => ∃ A' c', e = .returned (.tuple #[boundAgg A' l.length c' 0, .bool true]) ∧ Rd (W.heap.size ≤ ·) w' 2 A' l.length (vvs l) ∧ l.length ≤ c' ∧ Below W.heap.size W w') := fun W hq =>
    Heap_Object_bound (HHw12.out.frame (own' := own11) (Fr.of_below (S := fun _ => False) hq) (fun _ _ _ => ⟨id, rfl⟩)) (i := 1) hg1 (by omega)
  have HKa : Aside (∀ W, Below w12.heap.size w12 W → W.cell? ⟨wb, 2, none⟩ = some (.pointer (some ⟨hb', 0, none⟩)) ∧ W.cell? ⟨yb, 1, none⟩ = some (.int .i64 1)) := fun W hq =>
    ⟨cell_of_blk (below_blk hq (Nat.le_refl _) HBLw12.out) 2, cell_of_blk (below_blk hq (Nat.le_refl _) Y12.out.1) 1⟩
  go_cut [20, 21] (fun p q wx => ∃ ob A2 c2, p = .pointer (some ⟨ob, 0, none⟩) ∧ q = .bool true ∧ wx.heap[ob]? = some (.cells #[.int .i64 8, .slice A2 l.length c2, .slice none 0 0, .int .i64 0, .int .i64 0, .bool false] 57 (0, 0)) ∧ Rd (fun _ => True) wx 2 A2 l.length (vvs l) ∧ l.length ≤ c2 ∧ Below w12.heap.size w12 wx)
  case first =>
    go_region_held3 (fun W => W.cell? ⟨wb, 2, none⟩ = some (.pointer (some ⟨hb', 0, none⟩)) ∧ W.cell? ⟨yb, 1, none⟩ = some (.int .i64 1))
      ((with_reducible refine HKa.out _ ?_; ((repeat (first | with_reducible exact Below.refl _ _ | with_reducible assumption | with_reducible refine Below.drew ?_ | with_reducible refine below_put6 ?_ (Nat.le_refl _) | with_reducible refine Below.alloc ?_ (by first | exact Nat.le_refl _ | exact qa.size) _)); done)))
      (first | (go_at_call 15; go_loud (refine (HOa.out _ (by ((repeat (first | with_reducible exact Below.refl _ _ | with_reducible assumption | with_reducible refine Below.drew ?_ | with_reducible refine Below.alloc ?_ (Nat.le_refl _) _)); done))).mono ?_; rintro e w3a ⟨A2, c2, rfl, hR3, hc3, hb3⟩; unfold boundAgg; have qa : Below w12.heap.size w12 w3a := below_then (by ((repeat (first | with_reducible exact Below.refl _ _ | with_reducible assumption | with_reducible refine Below.drew ?_ | with_reducible refine Below.alloc ?_ (Nat.le_refl _) _)); done)) hb3; (try (have hO3 := below_blk hb3 (Nat.le_refl _) (blk_new w12 (.cells #[.int .i64 0, .slice none 0 0, .slice none 0 0, .int .i64 0, .int .i64 0, .bool false] 57)); obtain ⟨r0, r1, r2, r3, r4, r5, z0, z1, z2, z3, z4, z5⟩ := at6 hO3)))))
    all_goals go_wp2_with fail
    all_goals go_meet
    · exact ⟨_, A2, c2, rfl, rfl, blk_new w3a _, (hR3.below (below_alloc1 w3a _)).mono (fun _ _ _ => trivial), hc3, qa.alloc qa.size _⟩
    · have f6 := fr_put6 (x := .int .i64 8) (y := .slice A2 l.length c2) (z := .slice none 0 0) (u := .int .i64 0) (v := .int .i64 0) (q := .bool false) (Fr.refl (fun k => k = w12.heap.size) w3a) (g := w12.heap.size) (.inl rfl)
      refine ⟨_, A2, c2, rfl, rfl, put6 hO3, hR3.fr f6 (fun k hk _ => ?_), hc3, below_put6 qa (Nat.le_refl _)⟩
      have hk' : w12.heap.size + 1 ≤ k := by simpa using hk
      exact ⟨by omega, trivial⟩
  case rest =>
  obtain ⟨w13, hwn⟩ : ∃ w13, w13 = wc := ⟨_, rfl⟩
  subst hwn
  obtain ⟨oba, Aa, ca, rfl, rfl, hOa, hRa, hca, hba⟩ := hcut
  have HHw13 := aside (HHw12.out.frame (own' := own11) (Fr.of_below (S := fun _ => False) hba) (fun _ _ _ => ⟨id, rfl⟩))
  have HBLw13 := aside (below_blk hba (Nat.le_refl _) HBLw12.out)
  have Z13 := aside (show _ ∧ own11 zb = 0 from ⟨below_blk hba (Nat.le_refl _) Z12.out.1, Z12.out.2⟩)
  have HOa := aside hOa
  have HRa := aside hRa
  have HBa := aside hba
  clear hOa hRa hba HHw12 HBLw12 Z12 HKa
  go_upto_region 23 with fail
  have HOb : Aside (∀ W, Below w13.heap.size w13 W → Calls Tryz.prog 15 #[.pointer (some ⟨hb', 0, none⟩), .int .i64 2] W fun e w' => ∃ A' c', e = .returned (.tuple #[boundAgg A' l.length c' 0, .bool true]) ∧ Rd (W.heap.size ≤ ·) w' 2 A' l.length (vvs l) ∧ l.length ≤ c' ∧ Below W.heap.size W w') := fun W hq =>
    Heap_Object_bound (HHw13.out.frame (own' := own11) (Fr.of_below (S := fun _ => False) hq) (fun _ _ _ => ⟨id, rfl⟩)) (i := 2) hg2 (by omega)
  have HKb : Aside (∀ W, Below w13.heap.size w13 W → W.cell? ⟨wb, 2, none⟩ = some (.pointer (some ⟨hb', 0, none⟩)) ∧ W.cell? ⟨zb, 1, none⟩ = some (.int .i64 2)) := fun W hq =>
    ⟨cell_of_blk (below_blk hq (Nat.le_refl _) HBLw13.out) 2, cell_of_blk (below_blk hq (Nat.le_refl _) Z13.out.1) 1⟩
  go_cut [22, 23] (fun p q wx => ∃ ob A2 c2, p = .pointer (some ⟨ob, 0, none⟩) ∧ q = .bool true ∧ wx.heap[ob]? = some (.cells #[.int .i64 8, .slice A2 l.length c2, .slice none 0 0, .int .i64 0, .int .i64 0, .bool false] 57 (0, 0)) ∧ Rd (fun _ => True) wx 2 A2 l.length (vvs l) ∧ l.length ≤ c2 ∧ Below w13.heap.size w13 wx)
  case first =>
    go_region_held3 (fun W => W.cell? ⟨wb, 2, none⟩ = some (.pointer (some ⟨hb', 0, none⟩)) ∧ W.cell? ⟨zb, 1, none⟩ = some (.int .i64 2))
      ((with_reducible refine HKb.out _ ?_; ((repeat (first | with_reducible exact Below.refl _ _ | with_reducible assumption | with_reducible refine Below.drew ?_ | with_reducible refine below_put6 ?_ (Nat.le_refl _) | with_reducible refine Below.alloc ?_ (by first | exact Nat.le_refl _ | exact qb.size) _)); done)))
      (first | (go_at_call 15; go_loud (refine (HOb.out _ (by ((repeat (first | with_reducible exact Below.refl _ _ | with_reducible assumption | with_reducible refine Below.drew ?_ | with_reducible refine Below.alloc ?_ (Nat.le_refl _) _)); done))).mono ?_; rintro e w3b ⟨A2, c2, rfl, hR3, hc3, hb3⟩; unfold boundAgg; have qb : Below w13.heap.size w13 w3b := below_then (by ((repeat (first | with_reducible exact Below.refl _ _ | with_reducible assumption | with_reducible refine Below.drew ?_ | with_reducible refine Below.alloc ?_ (Nat.le_refl _) _)); done)) hb3; (try (have hO3 := below_blk hb3 (Nat.le_refl _) (blk_new w13 (.cells #[.int .i64 0, .slice none 0 0, .slice none 0 0, .int .i64 0, .int .i64 0, .bool false] 57)); obtain ⟨r0, r1, r2, r3, r4, r5, z0, z1, z2, z3, z4, z5⟩ := at6 hO3)))))
    all_goals go_wp2_with fail
    all_goals go_meet
    · exact ⟨_, A2, c2, rfl, rfl, blk_new w3b _, (hR3.below (below_alloc1 w3b _)).mono (fun _ _ _ => trivial), hc3, qb.alloc qb.size _⟩
    · have f6 := fr_put6 (x := .int .i64 8) (y := .slice A2 l.length c2) (z := .slice none 0 0) (u := .int .i64 0) (v := .int .i64 0) (q := .bool false) (Fr.refl (fun k => k = w13.heap.size) w3b) (g := w13.heap.size) (.inl rfl)
      refine ⟨_, A2, c2, rfl, rfl, put6 hO3, hR3.fr f6 (fun k hk _ => ?_), hc3, below_put6 qb (Nat.le_refl _)⟩
      have hk' : w13.heap.size + 1 ≤ k := by simpa using hk
      exact ⟨by omega, trivial⟩
  case rest =>
  obtain ⟨w14, hwn⟩ : ∃ w14, w14 = wc := ⟨_, rfl⟩
  subst hwn
  obtain ⟨obb, Ab, cb, rfl, rfl, hOb, hRb, hcb, hbb⟩ := hcut
  have HOb := aside hOb
  have hOA := below_blk hbb (Nat.le_refl _) HOa.out
  have CF : Below w.heap.size w w14 := C12.out.low.trans ((HBa.out.mono hw12).trans (hbb.mono (Nat.le_trans hw12 HBa.out.size)))
  have hSO := SameObject_bound Aa Ab ca cb l l (HRa.out.below hbb) hRb (by omega) (by omega) 0
  have hb15 := fun (W : World) (hq : Below w14.heap.size w14 W) => SameValues Aa A10 ca c10 l l ((HRa.out.below hbb).below hq) (((AL12.out.mono (fun _ _ _ => trivial)).below (HBa.out.trans (hbb.mono HBa.out.size))).below hq) (by omega) (by omega)
  simp only [decide_true] at hSO hb15
  unfold boundAgg at hSO
  have HSO := aside hSO
  have HSV := aside hb15
  have HCF := aside CF
  have HOA := aside hOA
  obtain ⟨r0, r1, r2, r3, r4, r5, -⟩ := at6 hOA
  obtain ⟨s0, s1, s2, s3, s4, s5, -⟩ := at6 hOb
  clear hSO hb15 CF hOA hOb hRb hbb HRa HBa HOa
  go_wp2_with (first
    | (go_at_call 16; go_loud (refine HSO.out.mono ?_; rintro e w15 ⟨rfl, hb15⟩; obtain ⟨r0, r1, r2, r3, r4, r5, -⟩ := at6 (below_blk hb15 (Nat.le_refl _) HOA.out)))
    | (go_at_call 17; go_loud (refine (HSV.out _ hb15).mono ?_; rintro e w16 ⟨rfl, nn, rfl⟩)))
  go_ret
  exact ⟨rfl, below_drewN (HCF.out.trans (hb15.mono HCF.out.size)) nn⟩
end Go.Proofs.YtcbokgnogcmheaaGreatDoor
