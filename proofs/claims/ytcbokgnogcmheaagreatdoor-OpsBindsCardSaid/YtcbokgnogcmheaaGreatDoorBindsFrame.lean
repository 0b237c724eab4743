/-
  THE CARD OF OpsBinds out of what its walk shows.
-/
import Derived.Test.YtcbokgnogcmheaaGreatDoorCards
import Derived.Test.YtcbokgnogcmheaaGreatDoorTie
import Derived.WalkKit
import Derived.ProofKit
import Derived.OpenShut
import Derived.LaidMore
import Derived.Lay
import Derived.SizedLaws
import Derived.Test.YtcbokgnogcmheaaGreatDoorBindsFacts
import Derived.SevenTiedAt
import Derived.Stop.Joined
import Derived.Carry
import Derived.Deep.SlicePairs
import Derived.ChangeArms
import Derived.Test.YtcbokgnogcmheaaGreatDoorCopy
namespace Go.Proofs.YtcbokgnogcmheaaGreatDoor.BindsCard
open Go.ChangeShapes Go.WideShapes Go.ChangeAt Go.RowKit
open Go.ChangeMaps (open_string shut_string)

section
variable {H : Type} {enc : TypeId × Value → H} {P : Program}
theorem post_of_below {f : Func} {s : ChangeSpec} {apart fresh handsOn again : Bool} {W W' : World} {args : Array Value} {v : Value} {ds gs : List (DataW H)} {before pa pv : List MemPlace}
    (hW : DataW.Whole enc P f.params.toList s.vars apart W args.toList ds gs before)
    (hres : ∀ (b : Nat) (sp : Nat → Bool) (hd : Bool), DataW.TrodAll enc P W' b sp hd f.resultTypes.toList (v.resultList f.resultTypes.size) (s.fn H (ds ++ gs)).results [])
    (hargs : ∀ sp : Nat → Bool, (∀ p ∈ before, sp p.block = true) → DataW.TrodAll enc P W' 0 sp true f.params.toList args.toList (s.fn H (ds ++ gs)).args pa)
    (hvars : ∀ sp : Nat → Bool, (∀ p ∈ before, sp p.block = true) → DataW.TrodVars enc P W' sp s.vars (s.fn H (ds ++ gs)).vars pv)
    (hps : before = pa ++ pv) (hb : Below W.heap.size W W')
    (hok : ∀ (j : Nat) (t : TypeId) (r : Value), f.resultTypes[j]? = some t → (v.resultList f.resultTypes.size)[j]? = some r → Value.okWide P W' .any 0 t r) :
    s.post enc P f apart fresh handsOn again W args v W' := by
  have hlt : ∀ p ∈ before, p.block < W.heap.size := fun p hp => hW.lt p hp
  have hold : ∀ p ∈ before, (fun b => decide (b < W.heap.size)) p.block = true := fun p hp => by simpa using hlt p hp
  refine ⟨ds, gs, before, [], pa, pv, hW, hres _ _ _, hargs _ hold, hvars _ hold, World.keptBut_mono (fun p hp => ⟨hp, ?_⟩) (hb.frame (· ∈ before)), fun _ => ?_⟩
  · rw [hps, List.mem_append] at hp
    exact Or.inr hp
  · obtain ⟨_, _, _, _, _, hz, hn⟩ := hW
    refine ⟨hok, _, _, ([] ++ pa) ++ pv, ⟨[] ++ pa, pv, trodAll_append (hargs _ (fun _ _ => rfl)) (hres _ _ _), hvars _ (fun _ _ => rfl), rfl, ?_, ?_⟩, ?_⟩
    · intro b off hp
      have hin : MemPlace.cell b off ∈ before := by rw [hps]; simpa using hp
      rw [hb.frozen (hlt _ hin)]
      exact hz b off hin
    · intro ha
      have := hn ha
      rw [hps] at this
      simpa using this
    · intro p hp _
      rw [hps]
      simpa using hp
end

theorem own : ownKnob Tryz.prog.godebug = none := by kernel_rfl

theorem laidOut : laidOutB Tryz.prog = true := by kernel_rfl
section
variable {H : Type} {enc : TypeId × Value → H} {W : World} {base : Nat} {spare : Nat → Bool} {held : Bool}
def numI : Value → Int
  | .int _ n => n
  | _ => 0
/-- A slice of values that came in, read. -/
theorem slice_vals {fuel : Nat} {A : Option Addr} {n c : Nat} {x : DataW H × List MemPlace} (h : DataW.trod enc Tryz.prog W base spare held fuel 46 [.slice A n c] = some x) :
    ∃ l : List VV, n = l.length ∧ Rd (fun _ => True) W 2 A l.length (vvs l) := by
  rcases Go.Deep.open_slice_pairs Tryz.underlying46 Tryz.underlying40 (by kernel_rfl) rfl rfl (by kernel_rfl) (by kernel_rfl) h with ⟨hcs, hx⟩ | ⟨a, len, cap, m, k, V0, V1, D0, D1, P0, P1, hcs, _, hl, hm, hmm, _, hi⟩
  · simp only [List.cons.injEq, Value.slice.injEq, and_true] at hcs
    obtain ⟨rfl, rfl, rfl⟩ := hcs
    exact ⟨[], rfl, Rd.nil _ _ _ _⟩
  · simp only [List.cons.injEq, Value.slice.injEq, and_true] at hcs
    obtain ⟨rfl, rfl, rfl⟩ := hcs
    have hnm : n ≤ m := by rw [hmm]; split <;> omega
    have hlen : ((List.range n).map fun i => (numI (V0 i), numI (V1 i))).length = n := by simp
    refine ⟨(List.range n).map fun i => (numI (V0 i), numI (V1 i)), hlen.symm, vvs_length _, ?_⟩
    rw [hlen]
    rcases Nat.eq_zero_or_pos n with h0 | h0
    · exact .inl h0
    · obtain ⟨ab, ao, spt⟩ := a
      have g0 := (hi 0 (by omega)).1
      have hsp : spt = none := by
        cases spt with
        | none => rfl
        | some q =>
          simp only [Nat.zero_mul, Addr.add, if_true] at g0
          unfold World.cell? at g0
          split at g0 <;> simp at g0
      subst hsp
      refine .inr ⟨ab, ao, rfl, trivial, ?_, fun j v hv => ?_⟩
      · have := World.block_lt_of_cell? W _ g0
        simpa [Addr.add] using this
      · have hj := (List.getElem?_eq_some_iff.1 hv).1
        rw [vvs_length, hlen] at hj
        have e1 := vvs_at ((List.range n).map fun i => (numI (V0 i), numI (V1 i))) (j / 2) (by rw [hlen]; omega)
        obtain ⟨c0, c1, t0, t1⟩ := hi (j / 2) (by omega)
        obtain ⟨z0, hz0, _, _⟩ := DataW.trod_int Tryz.underlying3 t0
        obtain ⟨z1, hz1, _, _⟩ := DataW.trod_int Tryz.underlying2 t1
        simp only [List.cons.injEq, and_true] at hz0 hz1
        rw [add_blk] at c0 c1
        rw [hz0] at c0
        rw [hz1] at c1
        rcases Nat.mod_two_eq_zero_or_one j with hp | hp
        · have ej : j = j / 2 * 2 := by omega
          rw [ej] at hv ⊢
          rw [e1.1] at hv
          rw [c0, ← hv]
          simp [hz0, numI]
        · have ej : j = j / 2 * 2 + 1 := by omega
          rw [ej] at hv ⊢
          rw [e1.2] at hv
          rw [c1, ← hv]
          simp [hz1, numI]
end

/-- What the walk is to show. -/
def Walk : Prop := ∀ (W : World) (p : Int) (A B : Option Addr) (ca cb : Nat) (a b : List VV), Rd (fun _ => True) W 2 A a.length (vvs a) → Rd (fun _ => True) W 2 B b.length (vvs b) → -9223372036854775808 ≤ p → p ≤ 9223372036854775807 →
  Calls Tryz.prog 4 #[.int .i64 p, .slice A a.length ca, .slice B b.length cb] W fun e w' => e = .returned (.bool true) ∧ Below W.heap.size W w'

set_option maxRecDepth 100000 in
theorem lifted (walk : Walk) (os : Os) (started : os.Started) (H : Type) (enc : TypeId × Value → H) :
    ReturnsInHanded {} Tryz.checked os 4 .any (fun w args => (Rows.opsBindsSpec.pre enc Tryz.prog Tryz.f4 Rows.opsBindsRow.domain false w args ∧ laidMetH Tryz.prog Rows.opsBindsRow.laid w) ∧ sizedMet enc Tryz.prog Tryz.f4 (OpenSpec.ofChange Rows.opsBindsSpec) false w args)
      (Rows.opsBindsSpec.post enc Tryz.prog Tryz.f4 false true false false) := by
  refine returnsInHanded_of_change_and (C := Tryz.checked) (X := fun w _ => laidMetH Tryz.prog Rows.opsBindsRow.laid w) (fun _ _ _ hh h => h.of_heap hh) own started (by kernel_rfl) Tryz.func4
    (ChangeSpec.witness_shaped (enc := enc) (C := Tryz.checked) (os := os) (X := fun w _ => laidMetH Tryz.prog Rows.opsBindsRow.laid w) false (World.laidAll Tryz.prog os Rows.opsBindsRow.laid) #[.int .i64 0, .slice none 0 0, .slice none 0 0] 8 (World.laidAll_os _ _ _)
      (World.shaped_of_ZipB (by kernel_rfl) (by kernel_rfl)) (by kernel_rfl) (by kernel_rfl) (by kernel_rfl)
      (by rw [MakeChecks.laidMetH_plain _ _ _ (by kernel_rfl)]; exact laidMet_laidAll _ (by kernel_rfl) (by kernel_rfl))) ?_
  intro W base args ds gs before hval0 hW hc hsz hL _
  have hval : ∀ (j : Nat) t v, Tryz.f4.params[j]? = some t → args[j]? = some v → Value.okWide Tryz.prog W .any base t v := hval0
  have hW' := hW
  obtain ⟨p, q, hA0, hV, rfl, _, _⟩ := hW
  have hA : DataW.TrodAll enc Tryz.prog W 0 (fun _ => true) true Tryz.f4.params.toList args.toList ds p := hA0
  rw [Tryz.params4] at hA hval hsz
  obtain ⟨v0, v1, v2, d0, d1, d2, p0, p1, p2, rfl, rfl, rfl, h0, h1, h2⟩ := trodAll_three hA
  obtain ⟨rfl, rfl⟩ := trodVars_none hV
  obtain ⟨k, rfl, rfl, rfl, wk⟩ := open_int Tryz.underlying3 (hval 0 3 v0 rfl rfl) h0
  obtain ⟨A, na, ca, rfl⟩ := okWide_slice Tryz.underlying46 (hval 1 46 v1 rfl rfl)
  obtain ⟨B, nb, cb, rfl⟩ := okWide_slice Tryz.underlying46 (hval 2 46 v2 rfl rfl)
  clear hA0
  simp only [List.append_nil] at hW'
  have hk := bounds_i64 wk
  have h1k := h1
  have h2k := h2
  obtain ⟨u1, g1⟩ := h1
  obtain ⟨u2, g2⟩ := h2
  obtain ⟨a, rfl, hRa⟩ := slice_vals g1
  obtain ⟨b, rfl, hRb⟩ := slice_vals g2
  refine (walk W k A B ca cb a b hRa hRb hk.1 hk.2).mono fun e W' ⟨he, hb⟩ => ?_
  · subst he
    refine ⟨_, rfl, post_of_below (pa := p1 ++ p2) (pv := []) hW' (fun _ _ _ => trodAll_mk1 (shut_bool Tryz.underlying4 _)) (fun sp hsp => ?_) (fun _ _ => rfl) (by simp) hb (ok_one (by kernel_rfl) rfl (okWide_bool_mk Tryz.underlying4 _))⟩
    have hlt : ∀ x ∈ p1 ++ p2, x.block < W.heap.size := fun x hx => by simpa using hW'.lt x (by simpa using hx)
    exact trodAll_mk3 (shut_int Tryz.underlying3 wk)
      (Go.WideElems.Trod_stays laidOut (by kernel_rfl) (of_decide_eq_true (by kernel_rfl)) h1k (fun x hx => hb.same (hlt x (by simp [hx]))) (fun x hx => hsp x (by simp [hx])))
      (Go.WideElems.Trod_stays laidOut (by kernel_rfl) (of_decide_eq_true (by kernel_rfl)) h2k (fun x hx => hb.same (hlt x (by simp [hx]))) (fun x hx => hsp x (by simp [hx])))

theorem said (walk : Walk) : Rows.OpsBindsSaid :=
  OpenClaim.holds_of_wide 4 Tryz.f4 rfl rfl rfl rfl rfl rfl rfl ⟨rfl, rfl, rfl, rfl, rfl⟩ rfl rfl rfl rfl rfl Binds9.fnamed Tryz.func4 Binds9.closed Binds9.inst Binds9.wrap
    (fun os started H enc _ => lifted walk os started H enc)
theorem card (walk : Walk) : Rows.OpsBindsCardSaid :=
  Claim7.holds_tied_plain_at .later [] _ _ _ _ (said walk) (fun _ h => by cases h) (by kernel_rfl) (fun _ h => by cases h) opsBinds_row_tie rfl ⟨rfl, rfl⟩ (by kernel_rfl) rfl
    (fun f fn hf hfn => by
      obtain rfl : f = 4 := Option.some.inj ((show Tryz.prog.funcNamed "portage/portagelaw13.OpsBinds" = some 4 by kernel_rfl).symm.trans hf) |>.symm
      obtain rfl : fn = Tryz.f4 := (Option.some.inj (Tryz.func4.symm.trans hfn)).symm
      exact ⟨by kernel_rfl, fun j t ht => by
        rw [Tryz.params4] at ht
        have hm : t ∈ [3, 46, 46] := by simpa using Array.mem_of_getElem? ht
        have hall : ([3, 46, 46].all fun u => !Tryz.prog.wantsStandIn u) = true := by kernel_rfl
        exact (show Tryz.prog.wantsStandIn t = false by simpa using List.all_eq_true.1 hall t hm)⟩)
    (by kernel_rfl)
end Go.Proofs.YtcbokgnogcmheaaGreatDoor.BindsCard
