/-
  BIND: a function, or what is bound already, with more values.
-/
import Derived.Test.YtcbokgnogcmheaaGreatDoorBind4
import Derived.Deep.CutBlock
namespace Go.Proofs.YtcbokgnogcmheaaGreatDoor
open Go.RowKit
set_option linter.unusedVariables false
set_option linter.unusedSimpArgs false

theorem ops_roomy (w : World) (v : VV) (ok : Bool) : Calls Tryz.prog 37 #[vg v, .bool ok] w fun e w' => e = .returned (dn v 0 (!ok)) ∧ Below w.heap.size w w' := by
  unfold vg
  go_enter Tryz.func37, Tryz.ntmps37
  go_wp2
  exact ret_c rfl rfl (heap_alloc2_new _ _ _) Tryz.underlying78 rfl size_done rfl ⟨rfl, below_alloc2 _ _ _⟩

/-- What bind leaves. -/
def BindPost (own : Nat → Nat) (w : World) (wb : Nat) (cs fs : Value) (bud : Int) (items : List ByteArray) (sp : Int) (ts : List Thing) (fn : Nat) (l more : List VV) (params : Int) (e : Ending) (w' : World) : Prop :=
  if ((l.length : Int) + more.length) ≤ params then Done own w wb cs fs bud (8, ts.length) 0 false items (sp + (2 + ((l.length : Int) + more.length))) (ts ++ [.bnd fn (l ++ more)]) e w'
  else Done own w wb cs fs bud (0, 0) 5 false items sp ts e w'

set_option maxRecDepth 8000 in
set_option maxHeartbeats 400000 in
theorem World_bind {own : Nat → Nat} {w : World} {wb : Nat} {cs : Value} {items : List ByteArray} {bud sp : Int} {ts : List Thing} {g o nf cf : Nat} (h : WAt own w wb cs (.slice (some ⟨g, o, none⟩) nf cf) items bud sp ts) (hsp : 0 ≤ sp) (hsp2 : sp ≤ 9223372036854775807) (hbud : 0 ≤ bud) (hb2 : bud ≤ 9223372036854775807) (hlen : ts.length ≤ 4294967296)
    {κ N : Int} {fn : Nat} {l : List VV} (hf : (κ = 5 ∧ N = fn ∧ l = []) ∨ ∃ idx : Nat, κ = 8 ∧ N = idx ∧ ts[idx]? = some (.bnd fn l)) (hfn : fn < nf) (hnf : nf ≤ 1099511627776) {params : Int} (hP : w.cell? ⟨g, o + fn * 5 + 1, none⟩ = some (.int .i64 params))
    {A : Option Addr} {m c : Nat} {more : List VV} (hm : m = more.length) (hmore : Src w 2 A m (vvs more)) (hl : l.length + m ≤ 4096) (hroom : 2 + ((l.length : Int) + m) ≤ bud - sp) :
    Calls Tryz.prog 41 #[.pointer (some ⟨wb, 0, none⟩), .agg #[.int .i64 κ, .int .i64 N], .slice A m c] w (BindPost own w wb cs (.slice (some ⟨g, o, none⟩) nf cf) bud items sp ts fn l more params) := by
  subst hm
  obtain ⟨i0, hi0, hz0, hz1, hz2⟩ := info_parts info_value
  have b2 := below_alloc2 w (.cells #[.int .i64 κ, .int .i64 N] 40) (.cells #[.int .i64 0, .int .i64 0, .int .i64 0, .bool false] 78)
  have hV2 := heap_alloc2_old w (.cells #[.int .i64 κ, .int .i64 N] 40) (.cells #[.int .i64 0, .int .i64 0, .int .i64 0, .bool false] 78)
  have hR2 := heap_alloc2_new w (.cells #[.int .i64 κ, .int .i64 N] 40) (.cells #[.int .i64 0, .int .i64 0, .int .i64 0, .bool false] 78)
  have HS2 := aside (show ((w.alloc (.cells #[.int .i64 κ, .int .i64 N] 40)).alloc (.cells #[.int .i64 0, .int .i64 0, .int .i64 0, .bool false] 78)).heap.size = w.heap.size + 1 + 1 by simp)
  have H := aside h
  have hW2 := h.below b2
  have HMO := aside (hmore.below b2)
  have HP2 := aside (below_cell b2 hP (World.block_lt_of_cell? w _ hP))
  clear hmore hP h
  go_enter Tryz.func41, Tryz.ntmps41
  go_upto_block 0 with fail
  have HV2 := aside hV2
  have HR2 := aside hR2
  have HW2 := aside hW2
  obtain ⟨v0, v1, _, _⟩ := at2 hV2
  clear hV2 hR2 hW2
  generalize ((w.alloc (.cells #[.int .i64 κ, .int .i64 N] 40)).alloc (.cells #[.int .i64 0, .int .i64 0, .int .i64 0, .bool false] 78)) = w2 at *
  go_cut [7, 8] (fun p q wx => p = .int .i64 fn ∧ ∃ D c, q = .slice D l.length c ∧ l.length ≤ c ∧ Rd (fun _ => True) wx 2 D l.length (vvs l) ∧ Below w2.heap.size w2 wx)
  case first =>
    rcases hf with ⟨rfl, rfl, rfl⟩ | ⟨idx, rfl, rfl, hidx⟩
    · go_wp2_with fail
      go_meet
      exact ⟨rfl, none, 0, rfl, Nat.zero_le _, Rd.nil _ _ _ _, Below.refl _ _⟩
    · have HO := aside (World_object_bound HW2.out hidx (by omega))
      go_upto_region 8 with (go_at_call 83; go_loud (refine HO.out.mono ?_; rintro e w3 ⟨A3, c3, rfl, hR3, hc3, hb3⟩; unfold boundAgg))
      have hO3 := blk_new w3 (.cells #[.int .i64 8, .slice A3 l.length c3, .slice none 0 0, .int .i64 fn, .int .i64 0, .bool false] 57)
      have hbO := below_alloc1 w3 (.cells #[.int .i64 8, .slice A3 l.length c3, .slice none 0 0, .int .i64 fn, .int .i64 0, .bool false] 57)
      have hRO := hR3.below hbO
      have hbW := hb3.trans (hbO.mono hb3.size)
      generalize w3.heap.size = ob at hO3 ⊢
      generalize w3.alloc (.cells #[.int .i64 8, .slice A3 l.length c3, .slice none 0 0, .int .i64 fn, .int .i64 0, .bool false] 57) = w4 at *
      obtain ⟨r0, r1, r2, r3, r4, r5, _⟩ := at6 hO3
      go_quiet (fail)
      go_wp2_with fail
      go_meet
      exact ⟨rfl, A3, c3, rfl, hc3, hRO.fr ((Fr.refl (fun _ => False) w4).drewN _) (fun _ _ _ => ⟨id, trivial⟩), below_drewN hbW _⟩
  case rest =>
    obtain ⟨w3, hw3⟩ : ∃ w3, w3 = wc := ⟨_, rfl⟩
    subst hw3
    obtain ⟨rfl, D, cD, rfl, hcD, hD, hb3⟩ := hcut
    have HW3 := aside (HW2.out.below hb3)
    have hW3 := HW3.out
    obtain ⟨h6, hT, hb, ib, hBl, hH, hI⟩ := hW3
    have k1 : w3.cell? ⟨wb, 1, none⟩ = some (.slice (some ⟨g, o, none⟩) nf cf) := cell_of_blk hBl 1
    have k2 : w3.cell? ⟨wb, 2, none⟩ = some (.pointer (some ⟨hb, 0, none⟩)) := cell_of_blk hBl 2
    have HP3 := aside (below_cell hb3 HP2.out (World.block_lt_of_cell? w2 _ HP2.out))
    have HM3 := aside (HMO.out.below hb3)
    have HR3 := aside (below_blk hb3 (Nat.le_refl _) HR2.out)
    have HD := aside hD
    have HB3 := aside hb3
    clear hBl hH hI h6 hT hD hb3 v0 v1 HP2 HMO HR2 HV2 HW2
    have d0 : decide ((fn : Int) < 0) = false := decide_eq_false (by omega)
    have d1 : decide (nf ≤ fn) = false := decide_eq_false (by omega)
    have d2 : decide ((nf : Int) ≤ fn) = false := decide_eq_false (by omega)
    have e0 : (0 : Int) ≤ fn := by omega
    have e1 : (fn : Int) < nf := by omega
    have j0 : (0 : Int) ≤ l.length := by omega
    have j1 : (l.length : Int) ≤ cD := by omega
    go_upto_region 12 with (at_builtin; go_loud (refine wpList_append_full rfl _ _ _ rfl 40 i0 (.agg #[.int .i64 0, .int .i64 0]) 2 16 Tryz.underlying46 hi0 hz0 hz1 hz2 rfl (by decide) (fun _ => True) D l.length (vvs l) rfl HD.out (vvs_one_cell l) A more.length c (vvs more) rfl HM3.out (vvs_one_cell more) (by unfold maxLen; omega) (by omega) ?_; rintro A4 c4 w4 hR4 hc4 hb4))
    have hW4 := HW3.out.below hb4
    have HP4 := below_cell hb4 HP3.out (World.block_lt_of_cell? w3 _ HP3.out)
    have HR4 := below_blk hb4 (Nat.le_refl _) HR3.out
    have hB4 := HB3.out.trans (hb4.mono HB3.out.size)
    have HW4 := aside hW4
    obtain ⟨h6, hT, hb, ib, hBl, hH, hI⟩ := hW4
    have k1 : w4.cell? ⟨wb, 1, none⟩ = some (.slice (some ⟨g, o, none⟩) nf cf) := cell_of_blk hBl 1
    have k2 : w4.cell? ⟨wb, 2, none⟩ = some (.pointer (some ⟨hb, 0, none⟩)) := cell_of_blk hBl 2
    have hw4 : w.heap.size + 1 < w4.heap.size := by have := hB4.size; have := HS2.out; omega
    have hr0 : own (w.heap.size + 1) = 0 := H.out.tidy _ (Nat.le_succ _)
    have HBL := aside hBl
    have HI := aside hI
    have hcast : ((l.length + more.length : Nat) : Int) = (l.length : Int) + more.length := by omega
    by_cases hle : ((l.length : Int) + more.length) ≤ params
    · have q1 : ¬ params < (l.length : Int) + more.length := by omega
      have HBd := aside (Heap_Bound (c := c4) hH hT hsp hsp2 hbud hb2 hlen (fn : Int) (by omega) (l := l ++ more) (n := l.length + more.length) (by simp) (by rw [vvs_append]; exact rd_src hR4) (by simp; omega) (by simp; omega))
      clear hBl hI hH
      go_wp2_with (first
        | (go_at_call 84; go_loud (refine HBd.out.mono ?_; rintro e w5 ⟨own5, rfl, hH5, f5, hT5, hx5⟩; unfold vg; have hR5 := f5.same HR4 (by rw [hr0]; decide)))
        | (go_at_call 37; go_loud (refine (ops_roomy _ (8, (ts.length : Int)) true).mono ?_; rintro e w6 ⟨rfl, hb6⟩; unfold dn; have hR6 := below_blk hb6 (Nat.le_refl _) hR5; obtain ⟨d0, d1, d2, d3, g0, g1, g2, g3⟩ := at4 hR6)))
      have hBw := b2.trans (hB4.mono b2.size)
      have ecast : ((l ++ more).length : Int) = (l.length : Int) + more.length := by simp
      rw [ecast] at hH5
      have hA5 : WAt own5 w5 wb cs (.slice (some ⟨g, o, none⟩) nf cf) items bud (sp + (2 + ((l.length : Int) + more.length))) (ts ++ [.bnd fn (l ++ more)]) :=
        ⟨(hx5 wb (lt_of_block HBL.out)).trans h6, hT5, hb, ib, f5.same HBL.out (by rw [h6]; decide), hH5, HI.out.frame f5 (fun k hk hi => ⟨by unfold isIdx at hi; omega, hx5 k hk⟩)⟩
      have st5 : Stp own own5 w w5 := (Stp.of_below hBw H.out.tidy).trans ⟨f5.mono (fun k _ e => by omega), hx5, hT5⟩
      exact ret_c rfl rfl (put4 hR6) Tryz.underlying78 rfl size_done rfl (by
        unfold BindPost
        rw [if_pos hle]
        exact ⟨own5, rfl, fin_world (hA5.below hb6) (st5.trans (hA5.stp hb6)) (Nat.le_succ _) ((hx5 _ (lt_of_block HR4)).trans hr0) (Fr.put4 (Fr.refl _ _) (.inl rfl))⟩)
    · have q1 : params < (l.length : Int) + more.length := by omega
      clear hBl hI hH
      go_wp2_with (go_at_call 71; go_loud (refine (ops_trap _ _).mono ?_; rintro e w5 ⟨rfl, hb5⟩; unfold dn; have hR5 := below_blk hb5 (Nat.le_refl _) HR4; obtain ⟨d0, d1, d2, d3, g0, g1, g2, g3⟩ := at4 hR5))
      have hBw := b2.trans (hB4.mono b2.size)
      have hA5 := HW4.out.below hb5
      exact ret_c rfl rfl (put4 hR5) Tryz.underlying78 rfl size_done rfl (by
        unfold BindPost
        rw [if_neg (by omega)]
        exact ⟨own, rfl, fin_world hA5 (Stp.of_below (hBw.trans (hb5.mono hBw.size)) H.out.tidy) (Nat.le_succ _) hr0 (Fr.put4 (Fr.refl _ _) (.inl rfl))⟩)
end Go.Proofs.YtcbokgnogcmheaaGreatDoor
