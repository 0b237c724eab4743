/-
  APPLY WHERE IT TRAPS; bind as an instruction; the law's helper 'bound'.
-/
import Derived.Test.YtcbokgnogcmheaaGreatDoorBind6
namespace Go.Proofs.YtcbokgnogcmheaaGreatDoor
open Go.RowKit
set_option linter.unusedVariables false
set_option linter.unusedSimpArgs false

theorem eff_bind : ∀ k : Fin 64, effOk 46 (k.val : Int) = true ∧ effTakes 46 (k.val : Int) = (k.val : Int) + 1 := by decide +kernel
section
variable {own : Nat → Nat} {w : World} {wb ab o n c : Nat} {cs fs : Value} {bud t sp : Int} {v : VV} {items : List ByteArray} {ts : List Thing}
set_option maxRecDepth 8000 in
theorem Apply_trap (hT : Tidy own w) {op A : Int} (h1 : -9223372036854775808 ≤ op) (h2 : op ≤ 9223372036854775807) (hok : effOk op A = true) (happ : appliesOp op = true) (hn : effTakes op A = n) (ht : t ≠ 0)
    (H : ∀ W, Below w.heap.size w W → Calls Tryz.prog 24 #[.pointer (some ⟨wb, 0, none⟩), .agg #[.int .i64 op, .int .i64 A], .slice (some ⟨ab, o, none⟩) n c] W (Done own W wb cs fs bud v t false items sp ts)) :
    Calls Tryz.prog 9 #[.pointer (some ⟨wb, 0, none⟩), .agg #[.int .i64 op, .int .i64 A], .slice (some ⟨ab, o, none⟩) n c] w fun e w' => ∃ own', e = .returned (.tuple #[vg (0, 0), .int .i64 t, .bool true]) ∧ WAt own' w' wb cs fs items bud sp ts ∧ Stp own own' w w' := by
  have hE := fun W => code_Effect W op A h1 h2
  rw [hok, hn] at hE
  have hP := fun W => ops_Applies W op true happ
  have b2 : Below w.heap.size w ((w.alloc (.cells #[.int .i64 op, .int .i64 A] 44)).alloc (.cells #[.int .i64 0, .int .i64 0] 40)) := ((Below.refl _ _).alloc (Nat.le_refl _) _).alloc (by simp) _
  have hI2 := heap_alloc2_old w (.cells #[.int .i64 op, .int .i64 A] 44) (.cells #[.int .i64 0, .int .i64 0] 40)
  have hR2 := heap_alloc2_new w (.cells #[.int .i64 op, .int .i64 A] 44) (.cells #[.int .i64 0, .int .i64 0] 40)
  have hown1 : own (w.heap.size + 1) = 0 := hT _ (Nat.le_succ _)
  have hn2 : (n : Int) = n := rfl
  have ht1 : (t != 0) = true := by simpa using ht
  have ht2 : (t == 0) = false := by simpa using ht
  go_enter Tryz.func9, Tryz.ntmps9
  go_upto_region 6 with (first
    | (go_at_call 22; go_loud (refine (hE _).mono ?_; rintro e w3 ⟨rfl, hb3⟩; have b3 := b2.trans (hb3.mono b2.size); have hI3 := below_blk hb3 (Nat.le_refl _) hI2; have hR3 := below_blk hb3 (Nat.le_refl _) hR2; obtain ⟨i0, i1, _, _⟩ := at2 hI3))
    | (go_at_call 23; go_loud (refine (hP _).mono ?_; rintro e w4 ⟨rfl, rfl⟩))
    | (go_at_call 24; go_loud (refine (H _ b3).mono ?_; rintro e w5 ⟨own5, rfl, hw5, st5⟩; unfold dn; have hR5 := st5.blk hR3 hown1; have hR6 := blk_alloc hR5 (.cells #[.int .i64 v.1, .int .i64 v.2, .int .i64 t, .bool false] 78); obtain ⟨d0, d1, g0, g1⟩ := at2 hR6)))
  have hD6 := blk_new w5 (.cells #[.int .i64 v.1, .int .i64 v.2, .int .i64 t, .bool false] 78)
  have b6 := below_alloc1 w5 (.cells #[.int .i64 v.1, .int .i64 v.2, .int .i64 t, .bool false] 78)
  have HR6 := aside hR6
  have hne : w.heap.size + 1 ≠ w5.heap.size := Nat.ne_of_lt (lt_of_block hR5)
  have hW6 := hw5.below b6
  have st6 := ((Stp.of_below (own := own) b3 hT).trans st5).trans (hw5.stp b6)
  have ho5 := st5.own0 (lt_of_block hR3) hown1
  clear hR6 hR5 b6
  generalize w5.heap.size = db at *
  generalize w5.alloc (.cells #[.int .i64 v.1, .int .i64 v.2, .int .i64 t, .bool false] 78) = w6 at *
  have HK : Aside (∀ W, Fr (fun k => k = w.heap.size + 1) w6 W → W.cell? ⟨db, 2, none⟩ = some (.int .i64 t) ∧ W.cell? ⟨db, 3, none⟩ = some (.bool false)) := fun W hf => by
    have := at4 (hf.same hD6 (Ne.symm hne))
    exact ⟨this.2.2.1, this.2.2.2.1⟩
  clear hD6
  go_region_held3 (fun W => W.cell? ⟨db, 2, none⟩ = some (.int .i64 t) ∧ W.cell? ⟨db, 3, none⟩ = some (.bool false))
    ((with_reducible refine HK.out _ ?_; ((repeat (first | with_reducible exact Fr.refl _ _ | with_reducible refine Fr.drew ?_ | with_reducible refine Fr.put2 ?_ (.inl rfl))); done)))
    (fail)
  go_wp2_with fail
  exact ret_ctt rfl rfl (drew_blk (put2 HR6.out)) Tryz.underlying40 rfl size_value rfl ⟨own5, rfl, fin_world hW6 st6 (Nat.le_succ _) ho5 (Fr.put2 (Fr.refl (fun k => k = w.heap.size + 1) w6) (.inl rfl)).drew⟩
end

/-- What an instruction bind leaves. -/
def BindOut (own : Nat → Nat) (w : World) (wb : Nat) (cs fs : Value) (bud : Int) (items : List ByteArray) (sp : Int) (ts : List Thing) (fn : Nat) (l more : List VV) (params : Int) (e : Ending) (w' : World) : Prop :=
  if ((l.length : Int) + more.length) ≤ params then ∃ own', e = .returned (.tuple #[vg (8, ts.length), .int .i64 0, .bool true]) ∧ WAt own' w' wb cs fs items bud (sp + (2 + ((l.length : Int) + more.length))) (ts ++ [.bnd fn (l ++ more)]) ∧ Stp own own' w w'
  else ∃ own', e = .returned (.tuple #[vg (0, 0), .int .i64 5, .bool true]) ∧ WAt own' w' wb cs fs items bud sp ts ∧ Stp own own' w w'
theorem Apply_bind {own : Nat → Nat} {w : World} {wb : Nat} {cs : Value} {items : List ByteArray} {bud sp : Int} {ts : List Thing} {g o nf cf : Nat} (h : WAt own w wb cs (.slice (some ⟨g, o, none⟩) nf cf) items bud sp ts) (hsp : 0 ≤ sp) (hsp2 : sp ≤ 9223372036854775807) (hbud : 0 ≤ bud) (hb2 : bud ≤ 9223372036854775807) (hlen : ts.length ≤ 4294967296)
    {κ N : Int} {fn : Nat} {l : List VV} (hf : (κ = 5 ∧ N = fn ∧ l = []) ∨ ∃ idx : Nat, κ = 8 ∧ N = idx ∧ ts[idx]? = some (.bnd fn l)) (hfn : fn < nf) (hnf : nf ≤ 1099511627776) {params : Int} (hP : w.cell? ⟨g, o + fn * 5 + 1, none⟩ = some (.int .i64 params))
    {ab ao n c : Nat} {more : List VV} (hn : n = more.length + 1) (hc : n ≤ c) (hA : ArgsAt w ab ao ((κ, N) :: more)) (hm : more.length < 64) (hl : l.length + more.length ≤ 4096) (hroom : 2 + ((l.length : Int) + more.length) ≤ bud - sp) :
    Calls Tryz.prog 9 #[.pointer (some ⟨wb, 0, none⟩), .agg #[.int .i64 46, .int .i64 more.length], .slice (some ⟨ab, ao, none⟩) n c] w (BindOut own w wb cs (.slice (some ⟨g, o, none⟩) nf cf) bud items sp ts fn l more params) := by
  have he := eff_bind ⟨more.length, hm⟩
  simp only at he
  have hn1 : n - 1 = more.length := by omega
  have HB : ∀ W, Below w.heap.size w W → ∀ W2, Below W.heap.size W W2 → ∀ X, Src W2 2 X (n - 1) (vvs more) → Calls Tryz.prog 41 #[.pointer (some ⟨wb, 0, none⟩), .agg #[.int .i64 κ, .int .i64 N], .slice X (n - 1) (c - 1)] W2 (BindPost own W2 wb cs (.slice (some ⟨g, o, none⟩) nf cf) bud items sp ts fn l more params) := fun W hW W2 hW2 X hX => by
    have hWW := hW.trans (hW2.mono hW.size)
    exact World_bind (h.below hWW) hsp hsp2 hbud hb2 hlen hf hfn hnf (below_cell hWW hP (World.block_lt_of_cell? w _ hP)) hn1 hX (by omega) (by omega)
  by_cases hle : ((l.length : Int) + more.length) ≤ params
  · refine (Apply_yes (cs := cs) (fs := .slice (some ⟨g, o, none⟩) nf cf) (v := (8, ts.length)) (bud := bud) (items := items) (sp := sp + (2 + ((l.length : Int) + more.length))) (ts := ts ++ [.bnd fn (l ++ more)]) h.tidy (by decide) (by decide) he.1 (by decide) (by rw [he.2]; omega) fun W hW => do_bind (h.below hW).tidy _ (hA.below hW) hn hc fun W2 hW2 X hX => (HB W hW W2 hW2 X hX).mono fun e w' hq => ?_).mono fun e w' hq => ?_
    · unfold BindPost at hq
      rw [if_pos hle] at hq
      exact hq
    · unfold BindOut
      rw [if_pos hle]
      exact hq
  · refine (Apply_trap (cs := cs) (fs := .slice (some ⟨g, o, none⟩) nf cf) (v := (0, 0)) (t := 5) (bud := bud) (items := items) (sp := sp) (ts := ts) h.tidy (by decide) (by decide) he.1 (by decide) (by rw [he.2]; omega) (by decide) fun W hW => do_bind (h.below hW).tidy _ (hA.below hW) hn hc fun W2 hW2 X hX => (HB W hW W2 hW2 X hX).mono fun e w' hq => ?_).mono fun e w' hq => ?_
    · unfold BindPost at hq
      rw [if_neg hle] at hq
      exact hq
    · unfold BindOut
      rw [if_neg hle]
      exact hq
end Go.Proofs.YtcbokgnogcmheaaGreatDoor
