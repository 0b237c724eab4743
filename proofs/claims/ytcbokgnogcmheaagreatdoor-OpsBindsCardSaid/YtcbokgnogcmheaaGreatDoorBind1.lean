/-
  THE HEAP OF OBJECTS, MORE: put, and a bound function made.
-/
import Derived.Test.YtcbokgnogcmheaaGreatDoorBindA
import Derived.Deep.RegionHeld3
import Derived.Deep.DeepCutAuto
import Derived.IntWalk
namespace Go.Proofs.YtcbokgnogcmheaaGreatDoor
open Go.RowKit

theorem bound_kind (b : Nat) (w : World) : Calls Tryz.prog 317 #[.pointer (some ⟨b, 0, none⟩)] w fun e w' => e = .returned (.int .i64 8) ∧ w = w' := by
  go_enter Tryz.func317, Tryz.ntmps317
  go_wp2
  go_ret
  exact ⟨rfl, rfl⟩

theorem info_thing : (Tryz.prog.info? 84).map (fun i => (i.zero, i.size, i.bytes)) = some (some .nilIface, 1, 16) := by kernel_rfl

theorem one_iface (t : TypeId) (v : Value) : ∀ u ∈ [Value.iface t v], u.oneCell' = true := by
  intro u hu
  simp only [List.mem_cons, List.not_mem_nil, or_false] at hu
  subst hu
  rfl
theorem kind_bound (b : Nat) (w : World) : (method 491 119 (.pointer (some ⟨b, 0, none⟩)) "portage/heap.kind").run Tryz.prog w = .ok (317, .pointer (some ⟨b, 0, none⟩)) w := by kernel_rfl
set_option maxRecDepth 8000 in
theorem put_bound {own : Nat → Nat} {w : World} {hb : Nat} {bud sp : Int} {ts : List Thing} (h : HeapAt own w hb bud sp ts) (hT : Tidy own w) (hsp : 0 ≤ sp) (hsp2 : sp ≤ 9223372036854775807) (hbud : 0 ≤ bud) (hb2 : bud ≤ 9223372036854775807) (hlen : ts.length ≤ 4294967296)
    (n : Int) (hn : 0 ≤ n) (hroom : n ≤ bud - sp) (fn : Int) (l : List VV) {b : Nat} (hx : ThingAt own (10 + ts.length) w (.iface 119 (.pointer (some ⟨b, 0, none⟩))) (.bnd fn l)) :
    Calls Tryz.prog 82 #[.pointer (some ⟨hb, 0, none⟩), .int .i64 n, .iface 119 (.pointer (some ⟨b, 0, none⟩))] w fun e w' =>
      ∃ own', e = .returned (.tuple #[vg (8, ts.length), .bool true]) ∧ HeapAt own' w' hb bud (sp + n) (ts ++ [.bnd fn l]) ∧ Fr (fun k => own k = 1 ∨ own k = 2) w w' ∧ Tidy own' w' ∧ Ext own own' w := by
  have hS := fun W (hf : Fr (fun _ => False) w W) => Heap_Spend_yes (h.frame (own' := own) (w' := W) hf (fun _ _ _ => ⟨id, rfl⟩)) n hsp hbud hb2 hsp2 hn hroom
  have hr0 : own w.heap.size = 0 := hT _ (Nat.le_refl _)
  obtain ⟨i0, hi0, hz0, hz1, hz2⟩ := info_parts info_thing
  have HX := aside hx
  have HH := aside h
  clear h hx
  go_enter Tryz.func82, Tryz.ntmps82
  go_upto_region 4 with (first
    | (go_at_call 116; go_loud (refine (hS _ ((Fr.refl _ _).alloc _)).mono ?_; rintro e w1 ⟨rfl, hH1, f1⟩; obtain ⟨h1, tv, ivs, hB1, hr1, ht1⟩ := hH1; obtain ⟨A, c, rfl, hc, hcm⟩ := hr1.slice; have c2 : w1.cell? ⟨hb, 2, none⟩ = some (.slice A ts.length c) := cell_of_blk hB1 2; have hRes := f1.same (blk_new w _) (by rw [hr0]; decide); have HT1 := aside ht1; clear ht1))
    | (at_builtin; go_loud (refine wpList_append_Row rfl _ _ _ rfl own 2 84 i0 .nilIface 1 16 Tryz.underlying80 hi0 hz0 hz1 hz2 rfl (by decide) _ ts.length ivs rfl (hr1.frame (own' := own) ((Fr.refl (fun _ => False) w1).alloc _) (fun k hk _ => ⟨id, hk⟩)) _ 1 1 [.iface 119 (.pointer (some ⟨b, 0, none⟩))] rfl Src.one (one_iface _ _) (by unfold maxLen; omega) (by omega) ?_; rintro v2 w2 own2 hr2 hf2 ht2 he2; obtain ⟨A2, c2', rfl, hc2, hcm2⟩ := hr2.slice; have hf2 := hf2.mono (S' := fun k => own k = 2) (fun i _ e => hr1.2 i e); have hB2 := hf2.same (blk_alloc hB1 _) (by rw [h1]; decide); have hRes2 := hf2.same (blk_alloc hRes _) (by rw [hr0]; decide); have c22 := frozen_of_blk hB2 2; have c20 := cell_of_blk hB2 2; clear c2)))
  have hne : hb ≠ w.heap.size := by intro e; rw [e] at h1; exact absurd (h1.symm.trans hr0) (by decide)
  have hRes3 := blk_far hRes2 (p := ⟨hb, 2, none⟩) (Ne.symm hne) (.slice A2 (ts.length + 1) c2')
  have hB3 : (w2.setCell ⟨hb, 2, none⟩ (.slice A2 (ts.length + 1) c2')).heap[hb]? = some (.cells #[.int .i64 bud, .int .i64 (sp + n), .slice A2 (ts.length + 1) c2'] 82 (0, 0)) := by simpa using blk_set hB2 2 (.slice A2 (ts.length + 1) c2')
  have c4 : (w2.setCell ⟨hb, 2, none⟩ (.slice A2 (ts.length + 1) c2')).cell? ⟨hb, 2, none⟩ = some (.slice A2 (ts.length + 1) c2') := cell_of_blk hB3 2
  have c3 := at2 hRes3
  have c5 : (((w2.setCell ⟨hb, 2, none⟩ (.slice A2 (ts.length + 1) c2')).setCell ⟨w.heap.size, 0, none⟩ (.int .i64 8)).setCell ⟨w.heap.size, 1, none⟩ (.int .i64 ts.length)).cell? ⟨hb, 2, none⟩ = some (.slice A2 (ts.length + 1) c2') :=
    cell_of_blk (blk_far (blk_far hB3 (p := ⟨w.heap.size, 0, none⟩) hne _) (p := ⟨w.heap.size, 1, none⟩) hne _) 2
  have f2 : Fr (fun k => k = hb) w2 (w2.setCell ⟨hb, 2, none⟩ (.slice A2 (ts.length + 1) c2')) := (Fr.refl (fun k => k = hb) w2).setCell (p := ⟨hb, 2, none⟩) (.inl rfl) _
  have F2 := aside f2
  have HB3 := aside hB3
  have HRes3 := aside hRes3
  clear f2 hB3 hRes3 hRes2 hB2 hRes c20 c22
  generalize w2.setCell ⟨hb, 2, none⟩ (.slice A2 (ts.length + 1) c2') = w3 at *
  have hm := kind_bound b
  have hwr : IntKind.i64.wrap (ts.length : Int) = ts.length := IntWalk.i64_in _ (by omega)
  go_region_held3 (fun W => W.cell? ⟨hb, 2, none⟩ = some (.slice A2 (ts.length + 1) c2'))
    (first | exact c4 | exact c5)
    (first
      | (go_at_call 317; go_loud (refine (bound_kind _ _).mono ?_; rintro e w4 ⟨rfl, rfl⟩)))
  go_wp2_with fail
  have s1 := f1.size
  simp only [World.size_alloc] at s1
  have s2 := hf2.size
  simp only [World.size_alloc] at s2
  have hbl := lt_of_block hB1
  have ho : ∀ k, k < w1.heap.size → own2 k = own k := fun k hk => he2 k (by simp; omega)
  have f3 : Fr (fun k => k = w.heap.size) w3 (((w3.drew.setCell ⟨w.heap.size, 0, none⟩ (.int .i64 8)).setCell ⟨w.heap.size, 1, none⟩ (.int .i64 ts.length))) := Fr.put2 ((Fr.refl (fun k => k = w.heap.size) w3).drew) (.inl rfl)
  have fE := (F2.out.mono (S' := fun k => k = hb ∨ k = w.heap.size) (fun _ _ h => .inl h)).trans' f3 (fun _ _ h => .inr h)
  have f2 := ((Fr.refl (fun k => own k = 2) w1).alloc (.cells #[.iface 119 (.pointer (some ⟨b, 0, none⟩))] 84)).trans' hf2 (fun _ _ h => h)
  have fB : Fr (fun k => own k = 2 ∨ k = hb ∨ k = w.heap.size) w1 _ := (f2.mono (fun _ _ h => .inl h)).trans' fE (fun _ _ h => .inr h)
  have fA := ((Fr.refl (fun k => own k = 1) w).alloc (.cells #[.int .i64 0, .int .i64 0] 40)).trans' f1 (fun _ _ h => h)
  have fW : Fr (fun k => own k = 1 ∨ own k = 2) w _ := (fA.mono (fun _ _ h => .inl h)).trans' fB (fun k hk h => by
    rcases h with h | h | h
    · exact .inr h
    · exact .inl (h ▸ h1)
    · omega)
  have o1 : own2 hb = 1 := (ho hb hbl).trans h1
  have o0 : own2 w.heap.size = 0 := (ho _ (by omega)).trans hr0
  refine ret_ct rfl rfl (put2 (w := w3.drew) HRes3.out) Tryz.underlying40 rfl size_value rfl ⟨own2, rfl, ⟨o1, _, ivs ++ [.iface 119 (.pointer (some ⟨b, 0, none⟩))], f3.same HB3.out hne, ?_, fun i x hi => ?_⟩, fW, ht2.frame fE.size, he2.mono (by simp; omega)⟩
  · have hq := hr2.frame (own' := own2) fE (fun k hk _ => ⟨fun e => by rcases e with e | e <;> subst e <;> omega, hk⟩)
    rw [List.length_append]
    exact hq
  · have hiv : ivs.length = ts.length := by have := hr1.len; omega
    by_cases hl : i < ts.length
    · rw [List.getElem?_append_left hl] at hi
      obtain ⟨v, hv, hth⟩ := HT1.out i x hi
      refine ⟨v, by rw [List.getElem?_append_left (by omega)]; exact hv, hth.frame fB (fun k hk hk2 => ⟨fun e => ?_, (ho k hk2).trans hk⟩)⟩
      rcases e with e | e | e
      · omega
      · subst e; omega
      · subst e; omega
    · have hil : i = ts.length := by
        have := (List.getElem?_eq_some_iff.1 hi).1
        simp at this
        omega
      subst hil
      simp only [List.getElem?_append_right (Nat.le_refl _), Nat.sub_self, List.getElem?_cons_zero, Option.some.injEq] at hi
      subst hi
      refine ⟨_, by rw [List.getElem?_append_right (by omega), hiv, Nat.sub_self]; rfl, HX.out.frame fW (fun k hk hk2 => ⟨fun e => ?_, (ho k (by omega)).trans hk⟩)⟩
      rcases e with e | e <;> omega
end Go.Proofs.YtcbokgnogcmheaaGreatDoor
