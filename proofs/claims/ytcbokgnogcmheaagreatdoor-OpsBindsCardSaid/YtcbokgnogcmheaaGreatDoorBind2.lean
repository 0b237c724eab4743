/-
  A BOUND FUNCTION MADE AND READ: (*Heap).Bound, (*bound).object, (*Heap).Object, (*World).object.
-/
import Derived.Test.YtcbokgnogcmheaaGreatDoorBind1
namespace Go.Proofs.YtcbokgnogcmheaaGreatDoor
open Go.RowKit
set_option linter.unusedVariables false
set_option linter.unusedSimpArgs false

theorem Src.below {w w' : World} {size m : Nat} {A : Option Addr} {news : List Value} (h : Src w size A m news) (hb : Below w.heap.size w w') : Src w' size A m news := h.frame (Fr.of_below (S := fun _ => False) hb) (fun _ _ => id)
/-- The bound function's block beside its row: ready to be put. -/
theorem bound_ready {own own2 : Nat → Nat} {w w2 : World} {x : Obj} {hb : Nat} {bud sp : Int} {ts : List Thing} (h : HeapAt own w hb bud sp ts) (hT : Tidy own w) (fn : Int) {v : Value} {l : List VV}
    (hb2 : Below (w.alloc x).heap.size (w.alloc x) w2) (hT2 : Tidy own2 w2) (hx2 : Ext own own2 (w.alloc x)) (hR : Row own2 (10 + ts.length) w2 40 2 v l.length (vvs l)) :
    HeapAt (fun k => if k = w2.heap.size then 10 + ts.length else own2 k) (w2.alloc (.cells #[.int .i64 fn, v] 121)) hb bud sp ts ∧ Tidy (fun k => if k = w2.heap.size then 10 + ts.length else own2 k) (w2.alloc (.cells #[.int .i64 fn, v] 121)) ∧
      ThingAt (fun k => if k = w2.heap.size then 10 + ts.length else own2 k) (10 + ts.length) (w2.alloc (.cells #[.int .i64 fn, v] 121)) (.iface 119 (.pointer (some ⟨w2.heap.size, 0, none⟩))) (.bnd fn l) ∧
      (∀ k, k < (w.alloc x).heap.size → (if k = w2.heap.size then 10 + ts.length else own2 k) = own k) ∧ (w2.alloc (.cells #[.int .i64 fn, v] 121)).heap[w.heap.size]? = some x ∧
      Below w.heap.size w (w2.alloc (.cells #[.int .i64 fn, v] 121)) := by
  have s2 := hb2.size
  simp only [World.size_alloc] at s2
  have hE : ∀ k, k < (w.alloc x).heap.size → (if k = w2.heap.size then 10 + ts.length else own2 k) = own k := fun k hk => by
    rw [if_neg (by simp at hk; omega)]
    exact hx2 k hk
  have hB : Below w.heap.size w (w2.alloc (.cells #[.int .i64 fn, v] 121)) := ((below_alloc1 w x).trans (hb2.mono (by simp))).alloc (by omega) _
  refine ⟨h.frame (Fr.of_below (S := fun _ => False) hB) (fun k hk _ => ⟨id, hE k (by simp; omega)⟩), fun k hk => ?_, ⟨w2.heap.size, v, rfl, if_pos rfl, blk_new _ _, hR.frame ((Fr.refl (fun _ => False) w2).alloc _) (fun k hk hl => ⟨id, ?_⟩)⟩, hE, blk_alloc (below_blk hb2 (Nat.le_refl _) (blk_new w x)) _, hB⟩
  · simp only [World.size_alloc] at hk
    show (if k = w2.heap.size then 10 + ts.length else own2 k) = 0
    rw [if_neg (by omega)]
    exact hT2 k (by omega)
  · show (if k = w2.heap.size then 10 + ts.length else own2 k) = _
    rw [if_neg (by omega)]
    exact hk
theorem Heap_Bound {own : Nat → Nat} {w : World} {hb : Nat} {bud sp : Int} {ts : List Thing} (h : HeapAt own w hb bud sp ts) (hT : Tidy own w) (hsp : 0 ≤ sp) (hsp2 : sp ≤ 9223372036854775807) (hbud : 0 ≤ bud) (hb2 : bud ≤ 9223372036854775807) (hlen : ts.length ≤ 4294967296)
    (fn : Int) (hfn : 0 ≤ fn) {A : Option Addr} {n c : Nat} {l : List VV} (hn : n = l.length) (hs : Src w 2 A n (vvs l)) (hl : l.length ≤ 4096) (hroom : 2 + (l.length : Int) ≤ bud - sp) :
    Calls Tryz.prog 84 #[.pointer (some ⟨hb, 0, none⟩), .int .i64 fn, .slice A n c] w fun e w' =>
      ∃ own', e = .returned (.tuple #[vg (8, ts.length), .bool true]) ∧ HeapAt own' w' hb bud (sp + (2 + l.length)) (ts ++ [.bnd fn l]) ∧ Fr (fun k => own k = 1 ∨ own k = 2) w w' ∧ Tidy own' w' ∧ Ext own own' w := by
  subst hn
  have hr0 : own w.heap.size = 0 := hT _ (Nat.le_refl _)
  have b1 := below_alloc1 w (.cells #[.int .i64 0, .int .i64 0] 40)
  have hC := aside (Clone_V (c := c) (10 + ts.length) (hT.frame b1.size) A l.length l (hs.below b1) rfl (by omega))
  have HH := aside h
  have HT := aside hT
  have g1 : ¬ fn < 0 := by omega
  have g2 : ¬ (4096 : Int) < l.length := by omega
  have d1 : decide (fn < 0) = false := decide_eq_false g1
  clear h hT hs
  go_enter Tryz.func84, Tryz.ntmps84
  go_wp2_with (first
    | (go_at_call 46; go_loud (refine hC.out.mono ?_; rintro e w2 ⟨v, own2, rfl, hR2, hbl2, hT2, hx2⟩; obtain ⟨A2, c2, rfl, hc2, hcm2⟩ := hR2.slice; have hq := aside (bound_ready HH.out HT.out fn hbl2 hT2 hx2 hR2); clear hR2 hT2 hx2))
    | (go_at_call 82; go_loud (refine (put_bound hq.out.1 hq.out.2.1 hsp hsp2 hbud hb2 hlen (2 + (l.length : Int)) (by omega) hroom fn l hq.out.2.2.1).mono ?_; rintro e w4 ⟨own4, rfl, hH4, f4, hT4, hx4⟩; unfold vg; have hE := hq.out.2.2.2.1; have hRes4 := f4.same hq.out.2.2.2.2.1 (by have e := hE w.heap.size (by simp); rw [e, hr0]; decide); obtain ⟨z0, z1, g0, g1⟩ := at2 hRes4)))
  have hB := hq.out.2.2.2.2.2
  have o0 : own4 w.heap.size = 0 := (hx4 _ (by have := hbl2.size; simp at this; simp; omega)).trans ((hE _ (by simp)).trans hr0)
  have f5 := Fr.put2 (x := .int .i64 8) (y := .int .i64 ts.length) (Fr.refl (fun k => k = w.heap.size) w4) (.inl rfl)
  refine ret_ct rfl rfl (put2 hRes4) Tryz.underlying40 rfl size_value rfl ⟨own4, rfl, hH4.frame f5 (fun k hk hi => ⟨?_, rfl⟩), ?_, hT4.frame f5.size, fun k hk => ?_⟩
  · rintro rfl
    unfold isHeap at hi
    omega
  · exact ((Fr.of_below (S := fun k => own k = 1 ∨ own k = 2) hB).trans' f4 (fun k hk e => by
      have := hE k (by simp; omega)
      rw [this] at e
      exact e)).trans' f5 (fun k hk e => by omega)
  · exact (hx4 k (by have := hB.size; omega)).trans (hE k (by simp; omega))
end Go.Proofs.YtcbokgnogcmheaaGreatDoor
