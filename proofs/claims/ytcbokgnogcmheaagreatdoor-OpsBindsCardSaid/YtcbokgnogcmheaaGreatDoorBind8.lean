/-
  NOTHING TO BIND TO: the trap; the law's helper 'bound'.
-/
import Derived.Test.YtcbokgnogcmheaaGreatDoorBind7
namespace Go.Proofs.YtcbokgnogcmheaaGreatDoor
open Go.RowKit
set_option linter.unusedVariables false
set_option linter.unusedSimpArgs false

/-- What an instruction leaves that went through or trapped. -/
def Out (own : Nat → Nat) (w : World) (wb : Nat) (cs fs : Value) (bud : Int) (v : VV) (t : Int) (items : List ByteArray) (sp : Int) (ts : List Thing) (e : Ending) (w' : World) : Prop :=
  ∃ own', e = .returned (.tuple #[vg v, .int .i64 t, .bool true]) ∧ WAt own' w' wb cs fs items bud sp ts ∧ Stp own own' w w'
section
variable {own : Nat → Nat} {w : World} {wb : Nat} {cs fs : Value} {bud t sp : Int} {v : VV} {items : List ByteArray} {ts : List Thing}

theorem World_bind_none (h : WAt own w wb cs fs items bud sp ts) (A : Option Addr) (m c : Nat) :
    Calls Tryz.prog 41 #[.pointer (some ⟨wb, 0, none⟩), .agg #[.int .i64 0, .int .i64 0], .slice A m c] w (Done own w wb cs fs bud (0, 0) 1 false items sp ts) := by
  have hT := h.tidy
  have b2 := below_alloc2 w (.cells #[.int .i64 0, .int .i64 0] 40) (.cells #[.int .i64 0, .int .i64 0, .int .i64 0, .bool false] 78)
  have hR2 := heap_alloc2_new w (.cells #[.int .i64 0, .int .i64 0] 40) (.cells #[.int .i64 0, .int .i64 0, .int .i64 0, .bool false] 78)
  have hr0 : own (w.heap.size + 1) = 0 := hT _ (Nat.le_succ _)
  go_enter Tryz.func41, Tryz.ntmps41
  go_wp2_with (go_at_call 71; go_loud (refine (ops_trap _ _).mono ?_; rintro e w5 ⟨rfl, hb5⟩; unfold dn; have hR5 := below_blk hb5 (Nat.le_refl _) hR2; obtain ⟨d0, d1, d2, d3, g0, g1, g2, g3⟩ := at4 hR5))
  have b5 := b2.trans (hb5.mono b2.size)
  exact ret_c rfl rfl (put4 hR5) Tryz.underlying78 rfl size_done rfl ⟨own, rfl, fin_world (h.below b5) (Stp.of_below b5 hT) (Nat.le_succ _) hr0 (Fr.put4 (Fr.refl _ _) (.inl rfl))⟩
theorem Apply_bind_none (h : WAt own w wb cs fs items bud sp ts) {ab ao n c : Nat} {more : List VV} (hn : n = more.length + 1) (hc : n ≤ c) (hA : ArgsAt w ab ao ((0, 0) :: more)) (hm : more.length < 64) :
    Calls Tryz.prog 9 #[.pointer (some ⟨wb, 0, none⟩), .agg #[.int .i64 46, .int .i64 more.length], .slice (some ⟨ab, ao, none⟩) n c] w (Out own w wb cs fs bud (0, 0) 1 items sp ts) := by
  have he := eff_bind ⟨more.length, hm⟩
  simp only at he
  exact Apply_trap (cs := cs) (fs := fs) (v := (0, 0)) (t := 1) (bud := bud) (items := items) (sp := sp) (ts := ts) h.tidy (by decide) (by decide) he.1 (by decide) (by rw [he.2]; omega) (by decide) fun W hW => do_bind (h.below hW).tidy _ (hA.below hW) hn hc fun W2 hW2 X hX => World_bind_none ((h.below hW).below hW2) _ _ _

theorem law_bound (hT : Tidy own w) {κ N : Int} {A : Option Addr} {m c : Nat} {more : List VV} (hm : m = more.length) (hs : Src w 2 A m (vvs more)) (hl : more.length ≤ 4096)
    (H : ∀ W, Below w.heap.size w W → ∀ ab o n c, n = more.length + 1 → n ≤ c → ArgsAt W ab o ((κ, N) :: more) →
      Calls Tryz.prog 9 #[.pointer (some ⟨wb, 0, none⟩), .agg #[.int .i64 46, .int .i64 more.length], .slice (some ⟨ab, o, none⟩) n c] W (Out own W wb cs fs bud v t items sp ts)) :
    Calls Tryz.prog 12 #[.pointer (some ⟨wb, 0, none⟩), .agg #[.int .i64 κ, .int .i64 N], .slice A m c] w (Out own w wb cs fs bud v t items sp ts) := by
  subst hm
  obtain ⟨i0, hi0, hz0, hz1, hz2⟩ := info_parts info_value
  have b3 := below_alloc3 w (.cells #[.int .i64 κ, .int .i64 N] 40) (.cells #[.int .i64 0, .int .i64 0] 40) (.cells #[.int .i64 κ, .int .i64 N] 40)
  obtain ⟨-, hR3, hF3⟩ := alloc3 w (.cells #[.int .i64 κ, .int .i64 N] 40) (.cells #[.int .i64 0, .int .i64 0] 40) (.cells #[.int .i64 κ, .int .i64 N] 40)
  have hr0 : own (w.heap.size + 1) = 0 := hT _ (Nat.le_succ _)
  have HS := aside (hs.below b3)
  have HH := aside H
  have HF := aside (rd_block (G := fun _ => True) (n := 1) (size := 2) hF3 trivial rfl)
  clear hs H
  go_enter Tryz.func12, Tryz.ntmps12
  go_wp2_with (first
    | (at_builtin; go_loud (refine wpList_append_full rfl _ _ _ rfl 40 i0 (.agg #[.int .i64 0, .int .i64 0]) 2 16 Tryz.underlying46 hi0 hz0 hz1 hz2 rfl (by decide) (fun _ => True) _ 1 [.int .i64 κ, .int .i64 N] rfl HF.out (vvs_one_cell [(κ, N)]) A more.length c (vvs more) rfl HS.out (vvs_one_cell more) (by unfold maxLen; omega) (by omega) ?_; rintro A4 c4 w4 hR4 hc4 hb4; obtain ⟨ab, o, rfl, _, _, hra⟩ := hR4.2.resolve_left (by omega); have hR5 := below_blk hb4 (Nat.le_refl _) hR3; have b4 := b3.trans (hb4.mono b3.size); have HA := aside (HH.out _ b4 ab o _ c4 (by omega) hc4 hra)))
    | (go_at_call 9; go_loud (refine HA.out.mono ?_; rintro e w5 ⟨own5, rfl, hW5, st5⟩; unfold vg; have hR6 := st5.blk hR5 hr0; obtain ⟨d0, d1, g0, g1⟩ := at2 hR6)))
  have st := (Stp.of_below (own := own) b4 hT).trans st5
  exact ret_ctt rfl rfl (put2 hR6) Tryz.underlying40 rfl size_value rfl ⟨own5, rfl, fin_world hW5 st (Nat.le_succ _) (st5.own0 (lt_of_block hR5) hr0) (Fr.put2 (Fr.refl _ _) (.inl rfl))⟩
end
end Go.Proofs.YtcbokgnogcmheaaGreatDoor
