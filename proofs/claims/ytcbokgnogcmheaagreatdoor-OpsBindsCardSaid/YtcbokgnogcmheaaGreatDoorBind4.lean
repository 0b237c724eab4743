/-
  A BOUND FUNCTION READ: (*Heap).Object, (*World).object.
-/
import Derived.Test.YtcbokgnogcmheaaGreatDoorBind3
namespace Go.Proofs.YtcbokgnogcmheaaGreatDoor
open Go.RowKit
set_option linter.unusedVariables false
set_option linter.unusedSimpArgs false

theorem below_then {w0 W W1 : World} (h : Below w0.heap.size w0 W) (hb : Below W.heap.size W W1) : Below w0.heap.size w0 W1 := h.trans (hb.mono h.size)
theorem drew_blk {W : World} {g : Nat} {o : Obj} (h : W.heap[g]? = some o) : W.drew.heap[g]? = some o := h
theorem object_bound (b : Nat) (w : World) : (method 491 119 (.pointer (some ⟨b, 0, none⟩)) "portage/heap.object").run Tryz.prog w = .ok (318, .pointer (some ⟨b, 0, none⟩)) w := by kernel_rfl
/-- What an object reads as that is a bound function. -/
def boundAgg (A : Option Addr) (n c : Nat) (fn : Int) : Value := .agg #[.int .i64 8, .slice A n c, .slice none 0 0, .int .i64 fn, .int .i64 0, .bool false]
theorem Heap_Object_bound {own : Nat → Nat} {w : World} {hb : Nat} {bud sp : Int} {ts : List Thing} (h : HeapAt own w hb bud sp ts) {i : Nat} {fn : Int} {l : List VV} (hi : ts[i]? = some (.bnd fn l)) (hl : l.length ≤ 8796093022207) :
    Calls Tryz.prog 15 #[.pointer (some ⟨hb, 0, none⟩), .int .i64 i] w fun e w' => ∃ A' c', e = .returned (.tuple #[boundAgg A' l.length c' fn, .bool true]) ∧ Rd (w.heap.size ≤ ·) w' 2 A' l.length (vvs l) ∧ l.length ≤ c' ∧ Below w.heap.size w w' := by
  have hlt : i < ts.length := (List.getElem?_eq_some_iff.1 hi).1
  obtain ⟨h1, tv, ivs, hB, hr, ht⟩ := h
  obtain ⟨g, c, cur, rfl, og, hc, hcm, hg, hcs, hcur⟩ := hr.form (by omega)
  obtain ⟨v, hv, hT⟩ := ht i _ hi
  obtain ⟨b, s, rfl, ho, hbl, hR⟩ := hT
  obtain ⟨A, c1, rfl, _, _⟩ := hR.slice
  have k2 : w.cell? ⟨hb, 2, none⟩ = some (.slice (some ⟨g, 0, none⟩) ts.length c) := cell_of_blk hB 2
  have k3 : w.cell? ⟨g, i, none⟩ = some (.iface 119 (.pointer (some ⟨b, 0, none⟩))) := by rw [cell_of_blk hg, hcur i (by omega), hv]
  have b1 := below_alloc1 w (.cells #[.int .i64 0, .slice none 0 0, .slice none 0 0, .int .i64 0, .int .i64 0, .bool false] 57)
  have k2' := below_cell b1 k2 (lt_of_block hB)
  have k3' := below_cell b1 k3 (lt_of_block hg)
  have hRes := blk_new w (.cells #[.int .i64 0, .slice none 0 0, .slice none 0 0, .int .i64 0, .int .i64 0, .bool false] 57)
  have HO := aside (bound_object (below_blk b1 (Nat.le_refl _) hbl) rfl ((Src.row hR).below b1) hl)
  have hlen : ts.length ≤ 9223372036854775807 := by unfold maxLen at hcm; omega
  have i0 : (0 : Int) ≤ i := by omega
  have i1 : (i : Int) < ts.length := by omega
  have d0 : decide ((i : Int) < 0) = false := decide_eq_false (by omega)
  have hsz : (w.alloc (.cells #[.int .i64 0, .slice none 0 0, .slice none 0 0, .int .i64 0, .int .i64 0, .bool false] 57)).heap.size = w.heap.size + 1 := by simp
  have hm := object_bound b
  clear hr ht hcur hB hR hbl k2 k3 hv hi hg
  go_enter Tryz.func15, Tryz.ntmps15
  go_wp2_with (go_at_call 318; go_loud (refine HO.out.mono ?_; rintro e w2 ⟨A2, c2, rfl, hR2, hc2, hb2⟩; have hRes2 := below_blk hb2 (Nat.le_refl _) hRes; obtain ⟨r0, r1, r2, r3, r4, r5, z0, z1, z2, z3, z4, z5⟩ := at6 hRes2))
  have f6 := fr_put6 (x := .int .i64 8) (y := .slice A2 l.length c2) (z := .slice none 0 0) (u := .int .i64 fn) (v := .int .i64 0) (q := .bool false) (Fr.refl (fun k => k = w.heap.size) w2) (g := w.heap.size) (.inl rfl)
  refine ret_ct rfl rfl (put6 hRes2) Tryz.underlying57 rfl size_object rfl ⟨A2, c2, rfl, hR2.fr f6 (fun k hk _ => ⟨fun e => ?_, ?_⟩), hc2, ?_⟩
  · rw [hsz] at hk; omega
  · rw [hsz] at hk; omega
  · exact below_put6 (b1.trans (hb2.mono (by omega))) (Nat.le_refl _)

set_option maxRecDepth 8000 in
theorem World_object_bound {own : Nat → Nat} {w : World} {wb : Nat} {cs fs : Value} {items : List ByteArray} {bud sp : Int} {ts : List Thing} (h : WAt own w wb cs fs items bud sp ts) {i : Nat} {fn : Int} {l : List VV} (hi : ts[i]? = some (.bnd fn l)) (hl : l.length ≤ 8796093022207) :
    Calls Tryz.prog 83 #[.pointer (some ⟨wb, 0, none⟩), vg (8, (i : Int))] w fun e w' => ∃ A' c', e = .returned (.tuple #[boundAgg A' l.length c' fn, .bool true]) ∧ Rd (w.heap.size ≤ ·) w' 2 A' l.length (vvs l) ∧ l.length ≤ c' ∧ Below w.heap.size w w' := by
  unfold vg
  obtain ⟨h6, hT, hb, ib, hW, hH, hI⟩ := h
  have b2 := below_alloc2 w (.cells #[.int .i64 8, .int .i64 i] 40) (.cells #[.int .i64 0, .slice none 0 0, .slice none 0 0, .int .i64 0, .int .i64 0, .bool false] 57)
  have hV2 := heap_alloc2_old w (.cells #[.int .i64 8, .int .i64 i] 40) (.cells #[.int .i64 0, .slice none 0 0, .slice none 0 0, .int .i64 0, .int .i64 0, .bool false] 57)
  have hR2 := heap_alloc2_new w (.cells #[.int .i64 8, .int .i64 i] 40) (.cells #[.int .i64 0, .slice none 0 0, .slice none 0 0, .int .i64 0, .int .i64 0, .bool false] 57)
  have hW2 := below_blk b2 (Nat.le_refl _) hW
  go_enter Tryz.func83, Tryz.ntmps83
  go_upto_region 1 with fail
  have hs2 : ((w.alloc (.cells #[.int .i64 8, .int .i64 i] 40)).alloc (.cells #[.int .i64 0, .slice none 0 0, .slice none 0 0, .int .i64 0, .int .i64 0, .bool false] 57)).heap.size = w.heap.size + 1 + 1 := by simp
  have HS2 := aside hs2
  generalize ((w.alloc (.cells #[.int .i64 8, .int .i64 i] 40)).alloc (.cells #[.int .i64 0, .slice none 0 0, .slice none 0 0, .int .i64 0, .int .i64 0, .bool false] 57)) = w2 at *
  have HO : Aside (∀ W, Below w2.heap.size w2 W → Calls Tryz.prog 15 #[.pointer (some ⟨hb, 0, none⟩), .int .i64 i] W fun e w' => ∃ A' c', e = .returned (.tuple #[boundAgg A' l.length c' fn, .bool true]) ∧ Rd (W.heap.size ≤ ·) w' 2 A' l.length (vvs l) ∧ l.length ≤ c' ∧ Below W.heap.size W w') := fun W hq =>
    Heap_Object_bound (hH.frame (own' := own) (Fr.of_below (S := fun _ => False) (b2.trans (hq.mono b2.size))) (fun _ _ _ => ⟨id, rfl⟩)) hi hl
  have HK : Aside (∀ W, Below w2.heap.size w2 W → W.cell? ⟨wb, 2, none⟩ = some (.pointer (some ⟨hb, 0, none⟩)) ∧ W.cell? ⟨w.heap.size, 1, none⟩ = some (.int .i64 i)) := fun W hq =>
    ⟨cell_of_blk (below_blk hq (Nat.le_refl _) hW2) 2, cell_of_blk (below_blk hq (Nat.le_refl _) hV2) 1⟩
  have HV2 := aside hV2
  have HR2 := aside hR2
  clear hW hH hI hW2 hV2 hR2 hs2
  go_cut [6, 7] (fun p q wx => ∃ ob A2 c2, p = .pointer (some ⟨ob, 0, none⟩) ∧ q = .bool true ∧ wx.heap[ob]? = some (.cells #[.int .i64 8, .slice A2 l.length c2, .slice none 0 0, .int .i64 fn, .int .i64 0, .bool false] 57 (0, 0)) ∧ Rd (w2.heap.size ≤ ·) wx 2 A2 l.length (vvs l) ∧ l.length ≤ c2 ∧ Below w2.heap.size w2 wx)
  case first =>
    go_region_held3 (fun W => W.cell? ⟨wb, 2, none⟩ = some (.pointer (some ⟨hb, 0, none⟩)) ∧ W.cell? ⟨w.heap.size, 1, none⟩ = some (.int .i64 i))
      ((with_reducible refine HK.out _ ?_; ((repeat (first | with_reducible exact Below.refl _ _ | with_reducible assumption | with_reducible refine Below.drew ?_ | with_reducible refine below_put6 ?_ (Nat.le_refl _) | with_reducible refine Below.alloc ?_ (by first | exact Nat.le_refl _ | exact q3.size) _)); done)))
      (first | (go_at_call 15; go_loud (refine (HO.out _ (by ((repeat (first | with_reducible exact Below.refl _ _ | with_reducible assumption | with_reducible refine Below.drew ?_ | with_reducible refine Below.alloc ?_ (Nat.le_refl _) _)); done))).mono ?_; rintro e w3 ⟨A2, c2, rfl, hR3, hc3, hb3⟩; unfold boundAgg; have q3 : Below w2.heap.size w2 w3 := below_then (by ((repeat (first | with_reducible exact Below.refl _ _ | with_reducible assumption | with_reducible refine Below.drew ?_ | with_reducible refine Below.alloc ?_ (Nat.le_refl _) _)); done)) hb3; (try (have hO3 := below_blk hb3 (Nat.le_refl _) (blk_new w2 (.cells #[.int .i64 0, .slice none 0 0, .slice none 0 0, .int .i64 0, .int .i64 0, .bool false] 57)); obtain ⟨r0, r1, r2, r3, r4, r5, z0, z1, z2, z3, z4, z5⟩ := at6 hO3)))))
    all_goals go_wp2_with fail
    all_goals go_meet
    · exact ⟨_, A2, c2, rfl, rfl, blk_new w3 _, hR3.below (below_alloc1 w3 _), hc3, q3.alloc q3.size _⟩
    · have f6 := fr_put6 (x := .int .i64 8) (y := .slice A2 l.length c2) (z := .slice none 0 0) (u := .int .i64 fn) (v := .int .i64 0) (q := .bool false) (Fr.refl (fun k => k = w2.heap.size) w3) (g := w2.heap.size) (.inl rfl)
      refine ⟨_, A2, c2, rfl, rfl, put6 hO3, hR3.fr f6 (fun k hk _ => ?_), hc3, below_put6 q3 (Nat.le_refl _)⟩
      have hk' : w2.heap.size + 1 ≤ k := by simpa using hk
      exact ⟨by omega, by omega⟩
  case rest =>
    obtain ⟨w3, hw3⟩ : ∃ w3, w3 = wc := ⟨_, rfl⟩
    subst hw3
    obtain ⟨ob, A2, c2, rfl, rfl, hO3, hR3, hc3, hb3⟩ := hcut
    have hv3 := below_blk hb3 (Nat.le_refl _) HV2.out
    have hr3 := below_blk hb3 (Nat.le_refl _) HR2.out
    have HK3 : Aside (∀ W, Fr (fun k => k = w.heap.size + 1) w3 W → W.cell? ⟨ob, 0, none⟩ = some (.int .i64 8) ∧ W.cell? ⟨ob, 1, none⟩ = some (.slice A2 l.length c2) ∧ W.cell? ⟨ob, 2, none⟩ = some (.slice none 0 0) ∧ W.cell? ⟨ob, 3, none⟩ = some (.int .i64 fn) ∧ W.cell? ⟨ob, 4, none⟩ = some (.int .i64 0) ∧ W.cell? ⟨ob, 5, none⟩ = some (.bool false) ∧ W.cell? ⟨w.heap.size, 0, none⟩ = some (.int .i64 8)) := fun W hf => by
      have hne : ob ≠ w.heap.size + 1 := by
        rintro rfl
        rw [hr3] at hO3
        simp at hO3
      obtain ⟨r0, r1, r2, r3, r4, r5, _⟩ := at6 (hf.same hO3 hne)
      exact ⟨r0, r1, r2, r3, r4, r5, cell_of_blk (hf.same hv3 (by omega)) 0⟩
    have HR3 := aside hr3
    obtain ⟨r0, r1, r2, r3, r4, r5, z0, z1, z2, z3, z4, z5⟩ := at6 hr3
    clear hv3 hr3 hO3
    go_upto_region 2 with fail
    go_region_held3 (fun W => W.cell? ⟨ob, 0, none⟩ = some (.int .i64 8) ∧ W.cell? ⟨ob, 1, none⟩ = some (.slice A2 l.length c2) ∧ W.cell? ⟨ob, 2, none⟩ = some (.slice none 0 0) ∧ W.cell? ⟨ob, 3, none⟩ = some (.int .i64 fn) ∧ W.cell? ⟨ob, 4, none⟩ = some (.int .i64 0) ∧ W.cell? ⟨ob, 5, none⟩ = some (.bool false) ∧ W.cell? ⟨w.heap.size, 0, none⟩ = some (.int .i64 8))
      ((with_reducible refine HK3.out _ ?_; ((repeat (first | with_reducible exact Fr.refl _ _ | with_reducible refine Fr.drew ?_ | with_reducible refine fr_put6 ?_ (.inl rfl))); done)))
      (fail)
    go_wp2_with fail
    have f6 := fr_put6 (x := .int .i64 8) (y := .slice A2 l.length c2) (z := .slice none 0 0) (u := .int .i64 fn) (v := .int .i64 0) (q := .bool false) (Fr.refl (fun k => k = w.heap.size + 1) w3) (g := w.heap.size + 1) (.inl rfl)
    have hs2 := HS2.out
    exact ret_ct rfl rfl (drew_blk (put6 HR3.out)) Tryz.underlying57 rfl size_object rfl ⟨A2, c2, rfl, hR3.fr f6.drew (fun k hk _ => ⟨by omega, by omega⟩), hc3, below_drew (below_put6 (b2.trans (hb3.mono b2.size)) (by omega))⟩
end Go.Proofs.YtcbokgnogcmheaaGreatDoor
