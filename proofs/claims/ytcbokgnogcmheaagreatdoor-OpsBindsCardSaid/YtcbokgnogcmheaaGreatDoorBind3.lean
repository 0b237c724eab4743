/-
  A BOUND FUNCTION READ: (*bound).object, (*Heap).Object, (*World).object.
-/
import Derived.Test.YtcbokgnogcmheaaGreatDoorBind2
namespace Go.Proofs.YtcbokgnogcmheaaGreatDoor
open Go.RowKit
set_option linter.unusedVariables false
set_option linter.unusedSimpArgs false

section
variable {w : World} {g : Nat} {a b c d e f x y z u v q : Value} {t : TypeId}
theorem at6 (h : w.heap[g]? = some (.cells #[a, b, c, d, e, f] t (0, 0))) : w.cell? ⟨g, 0, none⟩ = some a ∧ w.cell? ⟨g, 1, none⟩ = some b ∧ w.cell? ⟨g, 2, none⟩ = some c ∧ w.cell? ⟨g, 3, none⟩ = some d ∧ w.cell? ⟨g, 4, none⟩ = some e ∧ w.cell? ⟨g, 5, none⟩ = some f ∧
    w.frozen? ⟨g, 0, none⟩ = false ∧ w.frozen? ⟨g, 1, none⟩ = false ∧ w.frozen? ⟨g, 2, none⟩ = false ∧ w.frozen? ⟨g, 3, none⟩ = false ∧ w.frozen? ⟨g, 4, none⟩ = false ∧ w.frozen? ⟨g, 5, none⟩ = false := by
  simp [cell_of_blk h, frozen_of_blk h]
theorem put6 (h : w.heap[g]? = some (.cells #[a, b, c, d, e, f] t (0, 0))) : ((((((w.setCell ⟨g, 0, none⟩ x).setCell ⟨g, 1, none⟩ y).setCell ⟨g, 2, none⟩ z).setCell ⟨g, 3, none⟩ u).setCell ⟨g, 4, none⟩ v).setCell ⟨g, 5, none⟩ q).heap[g]? = some (.cells #[x, y, z, u, v, q] t (0, 0)) := by
  simpa using blk_set (blk_set (blk_set (blk_set (blk_set (blk_set h 0 x) 1 y) 2 z) 3 u) 4 v) 5 q
theorem far6 {r : Nat} {o : Obj} (h : w.heap[g]? = some o) (hne : g ≠ r) : ((((((w.setCell ⟨r, 0, none⟩ x).setCell ⟨r, 1, none⟩ y).setCell ⟨r, 2, none⟩ z).setCell ⟨r, 3, none⟩ u).setCell ⟨r, 4, none⟩ v).setCell ⟨r, 5, none⟩ q).heap[g]? = some o :=
  blk_far (blk_far (blk_far (blk_far (blk_far (blk_far h (p := ⟨r, 0, none⟩) hne _) (p := ⟨r, 1, none⟩) hne _) (p := ⟨r, 2, none⟩) hne _) (p := ⟨r, 3, none⟩) hne _) (p := ⟨r, 4, none⟩) hne _) (p := ⟨r, 5, none⟩) hne _
theorem cells01 {o p : Value} (h : w.heap[g]? = some (.cells #[o, p] t (0, 0))) : w.cell? ⟨g, 0, none⟩ = some o ∧ w.cell? ⟨g, 1, none⟩ = some p := ⟨(at2 h).1, (at2 h).2.1⟩
theorem below_put6 {w0 : World} {B : Nat} (h : Below B w0 w) (hg : B ≤ g) : Below B w0 ((((((w.setCell ⟨g, 0, none⟩ x).setCell ⟨g, 1, none⟩ y).setCell ⟨g, 2, none⟩ z).setCell ⟨g, 3, none⟩ u).setCell ⟨g, 4, none⟩ v).setCell ⟨g, 5, none⟩ q) :=
  (((((h.setCell hg _).setCell hg _).setCell hg _).setCell hg _).setCell hg _).setCell hg _
theorem fr_put6 {S : Nat → Prop} {w0 : World} (h : Fr S w0 w) (hg : S g ∨ w0.heap.size ≤ g) : Fr S w0 ((((((w.setCell ⟨g, 0, none⟩ x).setCell ⟨g, 1, none⟩ y).setCell ⟨g, 2, none⟩ z).setCell ⟨g, 3, none⟩ u).setCell ⟨g, 4, none⟩ v).setCell ⟨g, 5, none⟩ q) :=
  (((((h.setCell hg _).setCell hg _).setCell hg _).setCell hg _).setCell hg _).setCell hg _
end
theorem size_object : (Tryz.prog.info? 57).map (·.size) = some 6 := by kernel_rfl
/-- slices.Clone of values, where it does not matter whose the new row is. -/
theorem Clone_any {w : World} (A : Option Addr) (n c : Nat) (l : List VV) (hs : Src w 2 A n (vvs l)) (hn : n = l.length) (hlen : n ≤ 8796093022207) :
    Calls Tryz.prog 46 #[.slice A n c] w fun e w' => ∃ A' c', e = .returned (.slice A' l.length c') ∧ Rd (w.heap.size ≤ ·) w' 2 A' l.length (vvs l) ∧ l.length ≤ c' ∧ Below w.heap.size w w' := by
  refine (Clone_V (own := none0) 1 (fun _ _ => rfl) A n c l hs hn hlen).mono ?_
  rintro e w' ⟨v, own', rfl, hR, hb, hT, hx⟩
  obtain ⟨A', c', rfl, hc, _⟩ := hR.slice
  obtain ⟨A2, c2, hv, hRd⟩ := rd_of_row (G := (w.heap.size ≤ ·)) hR (fun k hk => by
    rcases Nat.lt_or_ge k w.heap.size with h' | h'
    · have := hx k h'; rw [hk] at this; cases this
    · exact h')
  cases hv
  exact ⟨A', c', rfl, hRd, hc, hb⟩

theorem bound_object {w : World} {b : Nat} {fn : Int} {A : Option Addr} {n c : Nat} {l : List VV} (hb : w.heap[b]? = some (.cells #[.int .i64 fn, .slice A n c] 121 (0, 0))) (hn : n = l.length) (hs : Src w 2 A n (vvs l)) (hl : l.length ≤ 8796093022207) :
    Calls Tryz.prog 318 #[.pointer (some ⟨b, 0, none⟩)] w fun e w' => ∃ A' c', e = .returned (.agg #[.int .i64 8, .slice A' l.length c', .slice none 0 0, .int .i64 fn, .int .i64 0, .bool false]) ∧ Rd (w.heap.size ≤ ·) w' 2 A' l.length (vvs l) ∧ l.length ≤ c' ∧ Below w.heap.size w w' := by
  subst hn
  have b1 := below_alloc1 w (.cells #[.int .i64 0, .slice none 0 0, .slice none 0 0, .int .i64 0, .int .i64 0, .bool false] 57)
  have hB1 := blk_alloc hb (.cells #[.int .i64 0, .slice none 0 0, .slice none 0 0, .int .i64 0, .int .i64 0, .bool false] 57)
  have hRes := blk_new w (.cells #[.int .i64 0, .slice none 0 0, .slice none 0 0, .int .i64 0, .int .i64 0, .bool false] 57)
  have HC := aside (Clone_any (c := c) A l.length l ((hs.below b1).frame ((Fr.refl (fun _ => False) _).drew) (fun _ _ => id)) rfl (by omega))
  clear hs
  go_enter Tryz.func318, Tryz.ntmps318
  go_upto_region 1 with fail
  have hsz : (w.alloc (.cells #[.int .i64 0, .slice none 0 0, .slice none 0 0, .int .i64 0, .int .i64 0, .bool false] 57)).heap.size = w.heap.size + 1 := by simp
  have c0 := cell_of_blk hB1 0
  have c1 := cell_of_blk hB1 1
  simp only [List.getElem?_toArray, List.getElem?_cons_zero, List.getElem?_cons_succ] at c0 c1
  generalize w.alloc (.cells #[.int .i64 0, .slice none 0 0, .slice none 0 0, .int .i64 0, .int .i64 0, .bool false] 57) = w1 at *
  have hne : b ≠ w.heap.size := Nat.ne_of_lt (lt_of_block hb)
  have HB1 := aside hB1
  have HRes := aside hRes
  clear hB1 hRes hb
  go_region_held3 (fun W => W.cell? ⟨b, 0, none⟩ = some (.int .i64 fn) ∧ W.cell? ⟨b, 1, none⟩ = some (.slice A l.length c))
    (((try simp only [World.cell?_drew]); first | with_reducible exact ⟨c0, c1⟩ | with_reducible exact cells01 HB2.out | with_reducible exact cells01 (far6 HB2.out hne)))
    (first
      | (go_at_call 46; go_loud (refine HC.out.mono ?_; rintro e w2 ⟨A2, c2, rfl, hR2, hc2, hb2⟩; have HRes2 := aside (below_blk hb2 (Nat.le_refl _) HRes.out); have HB2 := aside (below_blk hb2 (Nat.le_refl _) HB1.out); obtain ⟨r0, r1, r2, r3, r4, r5, z0, z1, z2, z3, z4, z5⟩ := at6 HRes2.out)))
  go_wp2_with fail
  have e1 : w1.drew.heap.size = w.heap.size + 1 := hsz
  have f6 := fr_put6 (x := .int .i64 8) (y := .slice A2 l.length c2) (z := .slice none 0 0) (u := .int .i64 fn) (v := .int .i64 0) (q := .bool false) (Fr.refl (fun k => k = w.heap.size) w2) (g := w.heap.size) (.inl rfl)
  refine ret_c rfl rfl (put6 HRes2.out) Tryz.underlying57 rfl size_object rfl ⟨A2, c2, rfl, hR2.fr f6 (fun k hk _ => ⟨fun e => ?_, ?_⟩), hc2, ?_⟩
  · rw [e1] at hk; omega
  · rw [e1] at hk; omega
  · exact below_put6 (b1.trans ((below_drew (Below.refl _ _)).trans (hb2.mono (by omega)))) (Nat.le_refl _)
end Go.Proofs.YtcbokgnogcmheaaGreatDoor
