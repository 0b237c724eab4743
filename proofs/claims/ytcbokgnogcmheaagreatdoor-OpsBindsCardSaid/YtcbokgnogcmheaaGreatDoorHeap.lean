/-
  THE HEAP OF OBJECTS (package heap), told as a budget, what is spent and a list of things; and what its plain calls do: New, Spend, Spent, Len, and slices.Clone of values.
-/
import Derived.Test.YtcbokgnogcmheaaGreatDoorProg
import Derived.Test.YtcbokgnogcmheaaGreatDoorAppend
import Derived.Carry
import Derived.Lib.SliceRun
import Derived.BigQuiet
import Derived.Deep.QuietTactic
import Derived.Outline
namespace Go.Proofs.YtcbokgnogcmheaaGreatDoor
open Go.RowKit

/-- A value of the machine: its kind and its number. -/
abbrev VV := Int × Int
def vv (p : VV) : List Value := [.int .i64 p.1, .int .i64 p.2]
def vvs (l : List VV) : List Value := l.flatMap vv
theorem vvs_length (l : List VV) : (vvs l).length = l.length * 2 := by
  induction l with
  | nil => rfl
  | cons p l ih =>
    have : vvs (p :: l) = vv p ++ vvs l := by simp [vvs]
    rw [this, List.length_append, ih, List.length_cons]
    simp only [vv, List.length_cons, List.length_nil]
    omega
theorem vvs_append (a b : List VV) : vvs (a ++ b) = vvs a ++ vvs b := by simp [vvs]
theorem vvs_one (p : VV) : vvs [p] = vv p := by simp [vvs]
theorem vvs_at (l : List VV) (i : Nat) (h : i < l.length) : (vvs l)[i * 2]? = some (.int .i64 l[i].1) ∧ (vvs l)[i * 2 + 1]? = some (.int .i64 l[i].2) := by
  induction l generalizing i with
  | nil => simp at h
  | cons p l ih =>
    cases i with
    | zero => simp [vvs, vv]
    | succ i =>
      have := ih i (by simpa using h)
      simp only [vvs, List.flatMap_cons, vv, List.cons_append, List.nil_append, Nat.succ_mul, List.getElem_cons_succ] at this ⊢
      exact this
theorem vvs_one_cell (l : List VV) : ∀ u ∈ vvs l, u.oneCell' = true := by
  intro u hu
  simp only [vvs, List.mem_flatMap, vv, List.mem_cons, List.not_mem_nil, or_false] at hu
  obtain ⟨p, _, rfl | rfl⟩ := hu <;> rfl

inductive Thing where
  | arr (l : List VV)
  | rcd (ks : List Int) (l : List VV)
  | bnd (fn : Int) (l : List VV)
  | chn (room : Int) (l : List VV) (shut : Bool)

/-- The interface value v holds this thing, all of whose blocks belong to the part t. -/
def ThingAt (own : Nat → Nat) (t : Nat) (w : World) (v : Value) : Thing → Prop
  | .arr l => ∃ b s, v = .iface 116 (.pointer (some ⟨b, 0, none⟩)) ∧ own b = t ∧ w.heap[b]? = some (.cells #[s] 118 (0, 0)) ∧ Row own t w 40 2 s l.length (vvs l)
  | .bnd fn l => ∃ b s, v = .iface 119 (.pointer (some ⟨b, 0, none⟩)) ∧ own b = t ∧ w.heap[b]? = some (.cells #[.int .i64 fn, s] 121 (0, 0)) ∧ Row own t w 40 2 s l.length (vvs l)
  | .chn room l shut => ∃ b s, v = .iface 122 (.pointer (some ⟨b, 0, none⟩)) ∧ own b = t ∧ w.heap[b]? = some (.cells #[.int .i64 room, s, .bool shut] 124 (0, 0)) ∧ Row own t w 40 2 s l.length (vvs l)
  | .rcd ks l => ∃ b kv s mv, v = .iface 125 (.pointer (some ⟨b, 0, none⟩)) ∧ own b = t ∧ w.heap[b]? = some (.cells #[kv, s, mv] 128 (0, 0)) ∧ Row own t w 2 1 kv ks.length (ks.map (Value.int .i64)) ∧
      Row own t w 40 2 s l.length (vvs l) ∧ ks.length = l.length ∧ ks.Nodup ∧ ((mv = .map none ∧ ks = []) ∨ ∃ mb, mv = .map (some mb) ∧ own mb = t ∧ MapL w mb (i64Entries ks))

theorem ThingAt.frame {own own' : Nat → Nat} {t : Nat} {w w' : World} {v : Value} {x : Thing} {S : Nat → Prop} (h : ThingAt own t w v x) (hf : Fr S w w') (hS : ∀ k, own k = t → k < w.heap.size → ¬ S k ∧ own' k = t) : ThingAt own' t w' v x := by
  cases x with
  | arr l =>
    obtain ⟨b, s, rfl, ho, hb, hr⟩ := h
    have := hS b ho (lt_of_block hb)
    exact ⟨b, s, rfl, this.2, hf.same hb this.1, hr.frame hf hS⟩
  | bnd fn l =>
    obtain ⟨b, s, rfl, ho, hb, hr⟩ := h
    have := hS b ho (lt_of_block hb)
    exact ⟨b, s, rfl, this.2, hf.same hb this.1, hr.frame hf hS⟩
  | chn room l shut =>
    obtain ⟨b, s, rfl, ho, hb, hr⟩ := h
    have := hS b ho (lt_of_block hb)
    exact ⟨b, s, rfl, this.2, hf.same hb this.1, hr.frame hf hS⟩
  | rcd ks l =>
    obtain ⟨b, kv, s, mv, rfl, ho, hb, hk, hr, hl, hn, hm⟩ := h
    have := hS b ho (lt_of_block hb)
    refine ⟨b, kv, s, mv, rfl, this.2, hf.same hb this.1, hk.frame hf hS, hr.frame hf hS, hl, hn, ?_⟩
    rcases hm with hm | ⟨mb, rfl, ho', hm⟩
    · exact .inl hm
    · have := hS mb ho' hm.lt
      exact .inr ⟨mb, rfl, this.2, hm.frame hf this.1⟩
theorem ThingAt.iface {own : Nat → Nat} {t : Nat} {w : World} {v : Value} {x : Thing} (h : ThingAt own t w v x) : ∃ T b, v = .iface T (.pointer (some ⟨b, 0, none⟩)) ∧ own b = t ∧ b < w.heap.size := by
  cases x with
  | arr l => obtain ⟨b, s, rfl, ho, hb, hr⟩ := h; exact ⟨_, b, rfl, ho, lt_of_block hb⟩
  | bnd fn l => obtain ⟨b, s, rfl, ho, hb, hr⟩ := h; exact ⟨_, b, rfl, ho, lt_of_block hb⟩
  | chn room l shut => obtain ⟨b, s, rfl, ho, hb, hr⟩ := h; exact ⟨_, b, rfl, ho, lt_of_block hb⟩
  | rcd ks l => obtain ⟨b, kv, s, mv, rfl, ho, hb, hr⟩ := h; exact ⟨_, b, rfl, ho, lt_of_block hb⟩

/-- The heap at block hb: parts 1 (its struct), 2 (its row), 10 + i (thing i). -/
def HeapAt (own : Nat → Nat) (w : World) (hb : Nat) (bud sp : Int) (ts : List Thing) : Prop :=
  own hb = 1 ∧ ∃ tv ivs, w.heap[hb]? = some (.cells #[.int .i64 bud, .int .i64 sp, tv] 82 (0, 0)) ∧ Row own 2 w 84 1 tv ts.length ivs ∧
    ∀ (i : Nat) (x : Thing), ts[i]? = some x → ∃ v, ivs[i]? = some v ∧ ThingAt own (10 + i) w v x
/-- What belongs to the heap. -/
def isHeap (own : Nat → Nat) (k : Nat) : Prop := own k = 1 ∨ own k = 2 ∨ 10 ≤ own k
theorem HeapAt.frame {own own' : Nat → Nat} {w w' : World} {hb : Nat} {bud sp : Int} {ts : List Thing} {S : Nat → Prop} (h : HeapAt own w hb bud sp ts) (hf : Fr S w w') (hS : ∀ k, k < w.heap.size → isHeap own k → ¬ S k ∧ own' k = own k) : HeapAt own' w' hb bud sp ts := by
  obtain ⟨h1, tv, ivs, hB, hr, ht⟩ := h
  have a1 := hS hb (lt_of_block hB) (.inl h1)
  refine ⟨a1.2.trans h1, tv, ivs, hf.same hB a1.1, hr.frame hf (fun k hk hl => by have := hS k hl (.inr (.inl hk)); exact ⟨this.1, this.2.trans hk⟩), fun i x hx => ?_⟩
  obtain ⟨v, hv, hT⟩ := ht i x hx
  exact ⟨v, hv, hT.frame hf (fun k hk hl => by have := hS k hl (.inr (.inr (by omega))); exact ⟨this.1, this.2.trans hk⟩)⟩

theorem Heap_New (w : World) (b s : Int) : Calls Tryz.prog 26 #[.int .i64 b, .int .i64 s] w fun e w' => e = .returned (.pointer (some ⟨w.heap.size, 0, none⟩)) ∧ w' = w.alloc (.cells #[.int .i64 (max b 0), .int .i64 (max s 0), .slice none 0 0] 82) := by
  go_enter Tryz.func26, Tryz.ntmps26
  go_wp2
  all_goals go_ret
  · exact ⟨rfl, by rw [Int.max_eq_right (by omega : b ≤ 0), Int.max_eq_right (by omega : s ≤ 0)]⟩
  · exact ⟨rfl, by rw [Int.max_eq_right (by omega : b ≤ 0), Int.max_eq_left (by omega : 0 ≤ s)]⟩
  · exact ⟨rfl, by rw [Int.max_eq_left (by omega : 0 ≤ b), Int.max_eq_right (by omega : s ≤ 0)]⟩
  · exact ⟨rfl, by rw [Int.max_eq_left (by omega : 0 ≤ b), Int.max_eq_left (by omega : 0 ≤ s)]⟩

theorem Heap_Spent {own : Nat → Nat} {w : World} {hb : Nat} {bud sp : Int} {ts : List Thing} (h : HeapAt own w hb bud sp ts) :
    Calls Tryz.prog 11 #[.pointer (some ⟨hb, 0, none⟩)] w fun e w' => e = .returned (.int .i64 sp) ∧ w = w' := by
  obtain ⟨h1, tv, ivs, hB, hr, ht⟩ := h
  have c1 : w.cell? ⟨hb, 1, none⟩ = some (.int .i64 sp) := by simp [cell_of_blk hB]
  clear hr ht hB
  go_enter Tryz.func11, Tryz.ntmps11
  go_wp2
  go_ret
  exact ⟨rfl, rfl⟩

theorem Heap_Len {own : Nat → Nat} {w : World} {hb : Nat} {bud sp : Int} {ts : List Thing} (h : HeapAt own w hb bud sp ts) :
    Calls Tryz.prog 14 #[.pointer (some ⟨hb, 0, none⟩)] w fun e w' => e = .returned (.int .i64 ts.length) ∧ w = w' := by
  obtain ⟨h1, tv, ivs, hB, hr, ht⟩ := h
  obtain ⟨A, c, rfl, hc, hcm⟩ := hr.slice
  have c2 : w.cell? ⟨hb, 2, none⟩ = some (.slice A ts.length c) := by simp [cell_of_blk hB]
  clear hr ht hB
  go_enter Tryz.func14, Tryz.ntmps14
  go_wp2
  go_ret
  exact ⟨rfl, rfl⟩

/-- Spend: so much is taken where it is there. -/
theorem Heap_Spend {own : Nat → Nat} {w : World} {hb : Nat} {bud sp : Int} {ts : List Thing} (h : HeapAt own w hb bud sp ts) (n : Int) (hsp : 0 ≤ sp) (hbud : 0 ≤ bud) (hb2 : bud ≤ 9223372036854775807) (hsp2 : sp ≤ 9223372036854775807) :
    Calls Tryz.prog 116 #[.pointer (some ⟨hb, 0, none⟩), .int .i64 n] w fun e w' => (0 ≤ n ∧ n ≤ bud - sp ∧ e = .returned (.bool true) ∧ HeapAt own w' hb bud (sp + n) ts ∧ Fr (fun k => own k = 1) w w') ∨ ((n < 0 ∨ bud - sp < n) ∧ e = .returned (.bool false) ∧ ∃ m, w' = w.drewN m) := by
  obtain ⟨h1, tv, ivs, hB, hr, ht⟩ := h
  have c0 : w.cell? ⟨hb, 0, none⟩ = some (.int .i64 bud) := by simp [cell_of_blk hB]
  have c1 : w.cell? ⟨hb, 1, none⟩ = some (.int .i64 sp) := by simp [cell_of_blk hB]
  have f1 := frozen_of_blk hB 1
  rcases Int.lt_or_le n 0 with hn | hn
  · have hd : decide (n < 0) = true := by simpa using hn
    go_enter Tryz.func116, Tryz.ntmps116
    go_wp2
    go_quiet (fail)
    go_wp2
    go_ret
    exact .inr ⟨.inl hn, rfl, _, rfl⟩
  · have hd : decide (n < 0) = false := by simpa using hn
    go_enter Tryz.func116, Tryz.ntmps116
    go_wp2
    go_quiet (fail)
    go_wp2
    · have hlt : bud - sp < n := by assumption
      go_ret
      exact .inr ⟨.inr hlt, rfl, _, rfl⟩
    · have hle : n ≤ bud - sp := by assumption
      go_ret
      have hf : Fr (fun k => own k = 1) w ((w.drewN nq).setCell ⟨hb, 1, none⟩ (.int .i64 (sp + n))) := ((Fr.refl _ w).drewN nq).setCell (.inl h1) _
      refine .inl ⟨hn, hle, rfl, ⟨h1, tv, ivs, ?_, hr.frame hf (fun k hk _ => ⟨by rw [hk]; decide, hk⟩), fun i x hx => ?_⟩, hf⟩
      · simpa using blk_set (w := w.drewN nq) hB 1 (.int .i64 (sp + n))
      · obtain ⟨v, hv, hT⟩ := ht i x hx
        exact ⟨v, hv, hT.frame hf (fun k hk _ => ⟨by omega, hk⟩)⟩

theorem info_value : (Tryz.prog.info? 40).map (fun i => (i.zero, i.size, i.bytes)) = some (some (.agg #[.int .i64 0, .int .i64 0]), 2, 16) := by kernel_rfl

/-- slices.Clone of values: a row of its own, for whichever part it is meant. -/
theorem Clone_V {w : World} {own : Nat → Nat} (pt : Nat) (ht : Tidy own w) (A : Option Addr) (n c : Nat) (l : List VV) (hs : Src w 2 A n (vvs l)) (hn : n = l.length) (hlen : n ≤ 8796093022207) :
    Calls Tryz.prog 46 #[.slice A n c] w fun e w' => ∃ v own', e = .returned v ∧ Row own' pt w' 40 2 v l.length (vvs l) ∧ Below w.heap.size w w' ∧ Tidy own' w' ∧ Ext own own' w := by
  have qT : ∀ (w : World) (a : Option Addr) (n c n' c' : Nat), (binOp .eql 46 (.slice a n c) (.slice none n' c')).run Tryz.prog w = .ok (.bool a.isNone) w := fun w a n c n' c' => Lib.run_eql_slice_nil w _ _ a n c n' c' Tryz.underlying46
  subst hn
  cases A with
  | none =>
    have hl : l = [] := by
      cases l with
      | nil => rfl
      | cons p l => obtain ⟨ad, h, _⟩ := hs.2 0 (.int .i64 p.1) (by simp [vvs, vv]); cases h
    subst hl
    clear hs
    go_enter Tryz.func46, Tryz.ntmps46
    go_wp2
    go_ret
    exact ⟨_, own, rfl, Row.nil _ _ _ _ _, Below.refl _ _, ht, Ext.refl _ _⟩
  | some ad =>
    obtain ⟨i0, hi0, hz0, hz1, hz2⟩ := info_parts info_value
    have hr0 : Row (fun k => if k = w.heap.size then pt else own k) pt (w.alloc (.cells #[] 40)) 40 2 (.slice (some ⟨w.heap.size, 0, none⟩) 0 0) 0 [] :=
      ⟨World.ownsRow_made w #[] 0 (Nat.zero_le _) (Nat.zero_le _) rfl, fun k hk => by simp [Value.ownBlock] at hk; simp [hk]⟩
    have hs1 := hs.frame ((Fr.refl (fun _ => False) w).alloc (.cells #[] 40)) (fun _ _ => id)
    go_enter Tryz.func46, Tryz.ntmps46
    go_wp2_with (at_builtin; refine wpList_append_Row rfl _ _ _ rfl (fun k => if k = w.heap.size then pt else own k) pt 40 i0 _ 2 16 Tryz.underlying46 hi0 hz0 hz1 hz2 rfl (by decide) _ 0 [] rfl hr0 _ l.length _ (vvs l) rfl hs1 (vvs_one_cell l) (by unfold maxLen; omega) (by omega) ?_; rintro v2 w2 own2 hr2 hf2 ht2 he2)
    go_ret
    refine ⟨v2, own2, rfl, by simpa using hr2, ?_, ht2, fun k hk => ?_⟩
    · have hb : Below w.heap.size w (w.alloc (.cells #[] 40)) := (Below.refl _ _).alloc (Nat.le_refl _) _
      exact hb.trans (hf2.below (by simp) (fun k hk e => by have := Option.some.inj (show some w.heap.size = some k from e); omega))
    · have := he2 k (by simp; omega)
      rw [this]
      simp only []
      rw [if_neg (by omega)]
end Go.Proofs.YtcbokgnogcmheaaGreatDoor
