/-
  BIND AS AN INSTRUCTION: do, Apply; the law's own helper 'bound'.
-/
import Derived.Test.YtcbokgnogcmheaaGreatDoorBind5
import Derived.StillTailTactics
namespace Go.Proofs.YtcbokgnogcmheaaGreatDoor
open Go.RowKit
set_option linter.unusedVariables false
set_option linter.unusedSimpArgs false

section
variable {own : Nat → Nat} {w : World} {wb ab o c : Nat} {cs fs : Value} {bud t sp : Int} {v : VV} {full : Bool} {items : List ByteArray} {ts : List Thing}

theorem rest_src {κ N : Int} {more : List VV} {m : Nat} (hm : m = more.length) (hA : ArgsAt w ab o ((κ, N) :: more)) : Src w 2 (some ⟨ab, o + 2, none⟩) m (vvs more) := by
  subst hm
  refine ⟨vvs_length more, fun j u hu => ⟨_, rfl, ?_⟩⟩
  rw [add_blk]
  have := hA (j + 2) u (by simpa [vvs, vv] using hu)
  rw [show o + 2 + j = o + (j + 2) by omega]
  exact this
theorem run_rest (W : World) {n : Nat} (h1 : 1 ≤ n) (hc : c ≠ 1) : (Instr.sliceAt 46 (.slice (some ⟨ab, o, none⟩) n c) (some (.int .i64 1)) none none).run Tryz.prog W = .ok (.slice (some ⟨ab, o + 2, none⟩) (n - 1) (c - 1)) W := by
  have hu : Tryz.prog.underlying 46 = some (.slice (Tryz.prog.elem 46)) := by rw [show Tryz.prog.elem 46 = 40 by kernel_rfl]; exact Tryz.underlying46
  rw [run_sliceAt_slice _ _ _ _ _ _ hu, run_slice_l _ _ _ _ _ hu .i64 1 (by omega) (by omega)]
  rw [show Tryz.prog.elem 46 = 40 by kernel_rfl]
  rw [show (sizeOf 40).run Tryz.prog W = .ok 2 W by kernel_rfl]
  simp [Result.andThen, sliced, hc, Addr.add]
set_option maxRecDepth 8000 in
theorem do_bind (hT : Tidy own w) (A : Int) {κ N : Int} {more : List VV} (hA : ArgsAt w ab o ((κ, N) :: more)) {n : Nat} (hn : n = more.length + 1) (hc : n ≤ c)
    (H : ∀ W, Below w.heap.size w W → ∀ X, Src W 2 X (n - 1) (vvs more) → Calls Tryz.prog 41 #[.pointer (some ⟨wb, 0, none⟩), .agg #[.int .i64 κ, .int .i64 N], .slice X (n - 1) (c - 1)] W (Done own W wb cs fs bud v t full items sp ts)) :
    Calls Tryz.prog 24 #[.pointer (some ⟨wb, 0, none⟩), .agg #[.int .i64 46, .int .i64 A], .slice (some ⟨ab, o, none⟩) n c] w (Done own w wb cs fs bud v t full items sp ts) := by
  have b2 : Below w.heap.size w ((w.alloc (.cells #[.int .i64 46, .int .i64 A] 44)).alloc (.cells #[.int .i64 0, .int .i64 0, .int .i64 0, .bool false] 78)) := ((Below.refl _ _).alloc (Nat.le_refl _) _).alloc (by simp) _
  have hR2 := heap_alloc2_new w (.cells #[.int .i64 46, .int .i64 A] 44) (.cells #[.int .i64 0, .int .i64 0, .int .i64 0, .bool false] 78)
  have hown1 : own (w.heap.size + 1) = 0 := hT _ (Nat.le_succ _)
  have hA2 := hA.below b2
  obtain ⟨a0, a1⟩ := hA2.at0
  have HA2 := aside hA2
  clear hA2
  by_cases hc1 : c = 1
  · obtain rfl : more = [] := List.eq_nil_of_length_eq_zero (by omega)
    subst hc1
    obtain rfl : n = 1 := by simpa using hn
    clear hn
    have H2 := aside (H _ (below_drew b2) (some ⟨ab, o, none⟩) ⟨rfl, fun j u h => by simp [vvs] at h⟩)
    clear H
    go_enter Tryz.func24, Tryz.ntmps24
    go_upto_region 27 with fail
    have HR2 := aside hR2
    clear hR2
    generalize ((w.alloc (.cells #[.int .i64 46, .int .i64 A] 44)).alloc (.cells #[.int .i64 0, .int .i64 0, .int .i64 0, .bool false] 78)) = w2 at *
    go_still_tail 6, (by kernel_rfl)
    go_wp2_with (go_at_call 41; go_loud (refine H2.out.mono ?_; rintro e w5 ⟨own5, rfl, hw5, st5⟩; unfold dn; have hR5 := st5.blk (drew_blk HR2.out) hown1; obtain ⟨d0, d1, d2, d3, g0, g1, g2, g3⟩ := at4 hR5))
    exact ret_c rfl rfl (put4 hR5) Tryz.underlying78 rfl size_done rfl ⟨own5, rfl, fin_world hw5 ((Stp.of_below (below_drew b2) hT).trans st5) (Nat.le_succ _) (st5.own0 (lt_of_block (drew_blk HR2.out)) hown1) (Fr.put4 (Fr.refl _ _) (.inl rfl))⟩
  · have k1 : (1 : Int) ≤ n := by omega
    have k2 : n ≤ c := hc
    have k3 : 0 < n := by omega
    have HN := aside (show n - 1 = more.length by omega)
    clear hn
    have hsl := fun W => run_rest (ab := ab) (o := o) (c := c) W (show 1 ≤ n by omega) hc1
    have H2 := aside (H _ (below_drew b2) (some ⟨ab, o + 2, none⟩) (rest_src HN.out (HA2.out.below (below_drew (Below.refl _ _)))))
    clear H
    go_enter Tryz.func24, Tryz.ntmps24
    go_upto_region 27 with fail
    have HR2 := aside hR2
    clear hR2
    generalize ((w.alloc (.cells #[.int .i64 46, .int .i64 A] 44)).alloc (.cells #[.int .i64 0, .int .i64 0, .int .i64 0, .bool false] 78)) = w2 at *
    go_still_tail 6, (by kernel_rfl)
    go_wp2_with (go_at_call 41; go_loud (refine H2.out.mono ?_; rintro e w5 ⟨own5, rfl, hw5, st5⟩; unfold dn; have hR5 := st5.blk (drew_blk HR2.out) hown1; obtain ⟨d0, d1, d2, d3, g0, g1, g2, g3⟩ := at4 hR5))
    exact ret_c rfl rfl (put4 hR5) Tryz.underlying78 rfl size_done rfl ⟨own5, rfl, fin_world hw5 ((Stp.of_below (below_drew b2) hT).trans st5) (Nat.le_succ _) (st5.own0 (lt_of_block (drew_blk HR2.out)) hown1) (Fr.put4 (Fr.refl _ _) (.inl rfl))⟩
end
end Go.Proofs.YtcbokgnogcmheaaGreatDoor
