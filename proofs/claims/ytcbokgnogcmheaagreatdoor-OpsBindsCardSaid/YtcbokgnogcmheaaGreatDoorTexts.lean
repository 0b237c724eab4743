/-
  THE OPERATIONS ON TEXTS: cat and cut where they go through.
-/
import Derived.Test.YtcbokgnogcmheaaGreatDoorWorld
import Derived.Deep.MidRow
import Derived.Deep.RegionWith
import Derived.Deep.DeepCutAuto
import Derived.Deep.RegionHeld3
namespace Go.Proofs.YtcbokgnogcmheaaGreatDoor
open Go.RowKit

/-- A result block of this call is written behind the callee's step: the world stands, the step stands. -/
theorem fin_world {own own2 : Nat → Nat} {w W wf : World} {r wb : Nat} {cs fs : Value} {items : List ByteArray} {bud sp : Int} {ts : List Thing} (hA : WAt own2 W wb cs fs items bud sp ts) (hS : Stp own own2 w W) (hr : w.heap.size ≤ r) (h2 : own2 r = 0) (f5 : Fr (fun k => k = r) W wf) :
    WAt own2 wf wb cs fs items bud sp ts ∧ Stp own own2 w wf := by
  refine ⟨hA.frame f5 (fun k _ hk => ⟨fun e => hk (e ▸ h2), rfl⟩) (hA.tidy.frame f5.size), hS.fr.trans' f5 (fun i hi e => by omega), hS.ext, hA.tidy.frame f5.size⟩

/-- The values that an operation is given: they lie from this place on. -/
def ArgsAt (w : World) (ab o : Nat) (vs : List VV) : Prop := w.rangeAt ab o (vvs vs)
theorem ArgsAt.fr {w w' : World} {ab o : Nat} {vs : List VV} {S : Nat → Prop} (h : ArgsAt w ab o vs) (hf : Fr S w w') (hS : ¬ S ab) : ArgsAt w' ab o vs := fun j v hv => hf.cell (h j v hv) hS
theorem ArgsAt.below {w w' : World} {ab o : Nat} {vs : List VV} (h : ArgsAt w ab o vs) (hb : Below w.heap.size w w') : ArgsAt w' ab o vs := h.fr (Fr.of_below (S := fun _ => False) hb) id
theorem ArgsAt.at0 {w : World} {ab o : Nat} {v : VV} {vs : List VV} (h : ArgsAt w ab o (v :: vs)) : w.cell? ⟨ab, o, none⟩ = some (.int .i64 v.1) ∧ w.cell? ⟨ab, o + 1, none⟩ = some (.int .i64 v.2) := ⟨h 0 _ rfl, h 1 _ rfl⟩
theorem ArgsAt.at1 {w : World} {ab o : Nat} {u v : VV} {vs : List VV} (h : ArgsAt w ab o (u :: v :: vs)) : w.cell? ⟨ab, o + 2, none⟩ = some (.int .i64 v.1) ∧ w.cell? ⟨ab, o + 3, none⟩ = some (.int .i64 v.2) := ⟨h 2 _ rfl, h 3 _ rfl⟩
theorem ArgsAt.at2 {w : World} {ab o : Nat} {t u v : VV} {vs : List VV} (h : ArgsAt w ab o (t :: u :: v :: vs)) : w.cell? ⟨ab, o + 4, none⟩ = some (.int .i64 v.1) ∧ w.cell? ⟨ab, o + 5, none⟩ = some (.int .i64 v.2) := ⟨h 4 _ rfl, h 5 _ rfl⟩

set_option maxRecDepth 4000 in
theorem texts_cat {own : Nat → Nat} {w : World} {wb : Nat} {cs fs : Value} {items : List ByteArray} {bud sp : Int} {ts : List Thing} (h : WAt own w wb cs fs items bud sp ts) (hsp : 0 ≤ sp) (hsp2 : sp ≤ 9223372036854775807) (hbud : 0 ≤ bud) (hb2 : bud ≤ 9223372036854775807) (hlen : items.length ≤ 4294967296)
    {ab o n c : Nat} {a b : VV} (hA : ArgsAt w ab o [a, b]) (hn : 2 ≤ n) {sa sb : ByteArray} (ha : textOf items a = some sa) (hb : textOf items b = some sb) (hs : (sa.size : Int) + sb.size ≤ 4096) (hroom : 1 + (sa.size + sb.size : Int) ≤ bud - sp) :
    Calls Tryz.prog 35 #[.pointer (some ⟨wb, 0, none⟩), .int .i64 38, .slice (some ⟨ab, o, none⟩) n c] w fun e w' => ∃ own', e = .returned (dn (4, (addT items (sa ++ sb)).idxOf (sa ++ sb)) 0 false) ∧ WAt own' w' wb cs fs (addT items (sa ++ sb)) bud (sp + (1 + (sa ++ sb).size)) ts ∧ Stp own own' w w' := by
  have hT := h.tidy
  have hown : own w.heap.size = 0 := hT _ (Nat.le_refl _)
  have b1 : Below w.heap.size w (w.alloc (.cells #[.int .i64 0, .int .i64 0, .int .i64 0, .bool false] 78)) := (Below.refl _ _).alloc (Nat.le_refl _) _
  have hA1 := hA.below b1
  obtain ⟨a0, a1⟩ := hA1.at0
  have b2 : Below w.heap.size w ((w.alloc (.cells #[.int .i64 0, .int .i64 0, .int .i64 0, .bool false] 78)).alloc (.cells #[.int .i64 a.1, .int .i64 a.2] 40)) := b1.alloc (by simp) _
  have hA2 := hA.below b2
  have hw2 := h.below b2
  have hR2 := heap_alloc2_old w (.cells #[.int .i64 0, .int .i64 0, .int .i64 0, .bool false] 78) (.cells #[.int .i64 a.1, .int .i64 a.2] 40)
  go_enter Tryz.func35, Tryz.ntmps35
  go_wp2_with (first
    | (go_at_call_of 70 (Value.agg #[Value.int IntKind.i64 a.1, Value.int IntKind.i64 a.2]); go_loud (refine (World_text hw2 a).mono ?_; rintro e w3 ⟨rfl, hb3⟩; simp only [ha, Option.getD_some, Option.isSome_some]; have hw3 := hw2.below hb3; have hA3 := hA2.below hb3; obtain ⟨a2, a3⟩ := hA3.at1; have hR3 := below_blk hb3 (Nat.le_refl _) hR2))
    | (go_at_call_of 70 (Value.agg #[Value.int IntKind.i64 b.1, Value.int IntKind.i64 b.2]); go_loud (refine (World_text hw3 b).mono ?_; rintro e w4 ⟨rfl, hb4⟩; simp only [hb, Option.getD_some, Option.isSome_some]; have hw4 := hw3.below hb4; have hR4 := below_blk hb4 (Nat.le_refl _) hR3))
    | (go_at_call 79; go_loud (refine (World_newText_yes hw4 (sa ++ sb) hsp hsp2 hbud hb2 (by simp; omega) hlen (by simp; omega)).mono ?_; rintro e w5 ⟨own5, rfl, hw5, st5⟩; unfold dn; have hR5 := st5.blk hR4 hown; obtain ⟨d0, d1, d2, d3, g0, g1, g2, g3⟩ := at4 hR5)))
  have st := (Stp.of_below (own := own) (b2.trans ((hb3.mono b2.size).trans (hb4.mono (Nat.le_trans b2.size hb3.size)))) hT).trans st5
  exact ret_c rfl rfl (put4 hR5) Tryz.underlying78 rfl size_done rfl ⟨own5, rfl, fin_world hw5 st (Nat.le_refl _) (st5.own0 (lt_of_block hR4) hown) (Fr.put4 (Fr.refl _ _) (.inl rfl))⟩

/-! ### what the cut's region holds on to: two arguments as they lie -/
section
variable {w W : World} {ab o : Nat} {x2 x3 x4 x5 : Int}
theorem two_start {a : VV} (hA : ArgsAt w ab o [a, (x2, x3), (x4, x5)]) (hb : Below w.heap.size w W) : W.cell? ⟨ab, o + 2, none⟩ = some (.int .i64 x2) ∧ W.cell? ⟨ab, o + 3, none⟩ = some (.int .i64 x3) ∧ W.cell? ⟨ab, o + 4, none⟩ = some (.int .i64 x4) ∧ W.cell? ⟨ab, o + 5, none⟩ = some (.int .i64 x5) ∧ Below w.heap.size w W :=
  have h := hA.below hb
  ⟨h.at1.1, h.at1.2, h.at2.1, h.at2.2, hb⟩
end

set_option maxRecDepth 4000 in
theorem texts_cut {own : Nat → Nat} {w : World} {wb : Nat} {cs fs : Value} {items : List ByteArray} {bud sp : Int} {ts : List Thing} (h : WAt own w wb cs fs items bud sp ts) (hsp : 0 ≤ sp) (hsp2 : sp ≤ 9223372036854775807) (hbud : 0 ≤ bud) (hb2 : bud ≤ 9223372036854775807) (hlen : items.length ≤ 4294967296)
    {ab o n c : Nat} {a : VV} {lo hi : Nat} (hA : ArgsAt w ab o [a, (2, lo), (2, hi)]) (hn : 3 ≤ n) {s : ByteArray} (ha : textOf items a = some s) (hl : lo ≤ hi) (hh : hi ≤ s.size) (hs : s.size ≤ 140737488355328) (hroom : 1 + (hi - lo : Int) ≤ bud - sp) :
    Calls Tryz.prog 35 #[.pointer (some ⟨wb, 0, none⟩), .int .i64 39, .slice (some ⟨ab, o, none⟩) n c] w fun e w' => ∃ own', e = .returned (dn (4, (addT items (s.extract lo hi)).idxOf (s.extract lo hi)) 0 false) ∧ WAt own' w' wb cs fs (addT items (s.extract lo hi)) bud (sp + (1 + (hi - lo : Int))) ts ∧ Stp own own' w w' := by
  have hT := h.tidy
  have hown : own w.heap.size = 0 := hT _ (Nat.le_refl _)
  have b1 : Below w.heap.size w (w.alloc (.cells #[.int .i64 0, .int .i64 0, .int .i64 0, .bool false] 78)) := (Below.refl _ _).alloc (Nat.le_refl _) _
  have hA1 := hA.below b1
  obtain ⟨a0, a1⟩ := hA1.at0
  have b2 : Below w.heap.size w ((w.alloc (.cells #[.int .i64 0, .int .i64 0, .int .i64 0, .bool false] 78)).alloc (.cells #[.int .i64 a.1, .int .i64 a.2] 40)) := b1.alloc (by simp) _
  have hA2 := hA.below b2
  have hw2 := h.below b2
  have hR2 := heap_alloc2_old w (.cells #[.int .i64 0, .int .i64 0, .int .i64 0, .bool false] 78) (.cells #[.int .i64 a.1, .int .i64 a.2] 40)
  go_enter Tryz.func35, Tryz.ntmps35
  have n1 : (1 : Int) < n := by omega
  have n2 : (2 : Int) < n := by omega
  go_upto_region 15 with (first
    | (go_at_call_of 70 (Value.agg #[Value.int IntKind.i64 a.1, Value.int IntKind.i64 a.2]); go_loud (refine (World_text hw2 a).mono ?_; rintro e w3 ⟨rfl, hb3⟩; simp only [ha, Option.getD_some, Option.isSome_some]; have hw3 := hw2.below hb3; have hA3 := hA2.below hb3; have hR3 := below_blk hb3 (Nat.le_refl _) hR2)))
  go_cut [12, 13] (fun p q wx => ∃ pb qb, p = .pointer (some ⟨pb, 0, none⟩) ∧ q = .pointer (some ⟨qb, 0, none⟩) ∧ wx.heap[pb]? = some (.cells #[.int .i64 2, .int .i64 lo] 40 (0, 0)) ∧ wx.heap[qb]? = some (.cells #[.int .i64 2, .int .i64 hi] 40 (0, 0)) ∧ Below w3.heap.size w3 wx)
  case first =>
    go_region_held3 (fun W => W.cell? ⟨ab, o + 2, none⟩ = some (.int .i64 2) ∧ W.cell? ⟨ab, o + 3, none⟩ = some (.int .i64 lo) ∧ W.cell? ⟨ab, o + 4, none⟩ = some (.int .i64 2) ∧ W.cell? ⟨ab, o + 5, none⟩ = some (.int .i64 hi) ∧ Below w3.heap.size w3 W)
      (first | (refine two_start hA3 ?_; repeat (first | exact Below.refl _ _ | refine Below.drew ?_ | refine Below.alloc ?_ (by first | exact Nat.le_refl _ | simp | (simp; omega)) _)) | assumption)
      (fail)
    · go_wp2_with fail
      go_meet
      exact ⟨_, _, rfl, rfl, heap_alloc2_old _ _ _, heap_alloc2_new _ _ _, (((Below.refl _ _).alloc (Nat.le_refl _) _).alloc (by simp) _).drew⟩
    · go_wp2_with fail
      go_meet
      exact ⟨_, _, rfl, rfl, heap_alloc2_new _ _ _, heap_alloc2_old _ _ _, (((Below.refl _ _).alloc (Nat.le_refl _) _).alloc (by simp) _).drew⟩
  case rest =>
    obtain ⟨pb, qb, rfl, rfl, hp, hq, hbc⟩ := hcut
    obtain ⟨p0, p1, _, _⟩ := at2 hp
    obtain ⟨q0, q1, _, _⟩ := at2 hq
    have hwc := hw3.below hbc
    have hRc := below_blk hbc (Nat.le_refl _) hR3
    have l0 : (0 : Int) ≤ lo := by omega
    have l1 : (lo : Int) ≤ hi := by omega
    have l2 : (hi : Int) ≤ s.size := by omega
    clear a0 a1 b1 hA1 hA2 hw2
    have hsz : ((s.extract lo hi).size : Int) = hi - lo := by
      have : (s.extract lo hi).size = hi - lo := by rw [ByteArray.size_extract]; omega
      omega
    go_wp2_with (go_at_call 79; go_loud (refine (World_newText_yes hwc (s.extract lo hi) hsp hsp2 hbud hb2 (by omega) hlen (by omega)).mono ?_; rintro e w5 ⟨own5, rfl, hw5, st5⟩; unfold dn; have hR5 := st5.blk hRc hown; obtain ⟨d0, d1, d2, d3, g0, g1, g2, g3⟩ := at4 hR5))
    have st := (Stp.of_below (own := own) (b2.trans ((hb3.mono b2.size).trans (hbc.mono (Nat.le_trans b2.size hb3.size)))) hT).trans st5
    rw [hsz] at hw5
    exact ret_c rfl rfl (put4 hR5) Tryz.underlying78 rfl size_done rfl ⟨own5, rfl, fin_world hw5 st (Nat.le_refl _) (st5.own0 (lt_of_block hRc) hown) (Fr.put4 (Fr.refl _ _) (.inl rfl))⟩
end Go.Proofs.YtcbokgnogcmheaaGreatDoor
