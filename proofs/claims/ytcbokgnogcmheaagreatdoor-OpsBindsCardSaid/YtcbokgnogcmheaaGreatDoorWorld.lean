/-
  THE WORLD OF OPS, told as its heap, its texts and its functions; what text and newText do.
-/
import Derived.Test.YtcbokgnogcmheaaGreatDoorOps6
import Derived.Test.YtcbokgnogcmheaaGreatDoorIntern
namespace Go.Proofs.YtcbokgnogcmheaaGreatDoor
open Go.RowKit

/-- A step: only blocks of the state may have turned; what stood belongs where it did. -/
structure Stp (own own' : Nat → Nat) (w w' : World) : Prop where
  fr : Fr (fun k => own k ≠ 0) w w'
  ext : Ext own own' w
  tidy : Tidy own' w'
theorem Stp.trans {a b c : Nat → Nat} {w w' w'' : World} (h : Stp a b w w') (k : Stp b c w' w'') : Stp a c w w'' :=
  ⟨h.fr.trans' k.fr (fun i hi hs => by rw [h.ext i hi] at hs; exact hs), h.ext.trans k.ext h.fr.size, k.tidy⟩
theorem Stp.of_below {own : Nat → Nat} {w w' : World} (h : Below w.heap.size w w') (ht : Tidy own w) : Stp own own w w' := ⟨Fr.of_below h, Ext.refl _ _, ht.frame h.size⟩
theorem Stp.blk {own own' : Nat → Nat} {w w' : World} {g : Nat} {o : Obj} (h : Stp own own' w w') (hb : w.heap[g]? = some o) (ho : own g = 0) : w'.heap[g]? = some o := h.fr.same hb (by simp [ho])
theorem Stp.own0 {own own' : Nat → Nat} {w w' : World} {g : Nat} (h : Stp own own' w w') (hg : g < w.heap.size) (ho : own g = 0) : own' g = 0 := (h.ext g hg).trans ho
theorem Stp.below {own own' : Nat → Nat} {w w' : World} {B : Nat} (h : Stp own own' w w') (hB : B ≤ w.heap.size) (ho : ∀ k, k < B → own k = 0) : Below B w w' := h.fr.below hB (fun k hk => by simp [ho k hk])

/-- The world of ops at block wb (part 6): its constants and functions as they stand, its heap, its texts. -/
def WAt (own : Nat → Nat) (w : World) (wb : Nat) (cs fs : Value) (items : List ByteArray) (bud sp : Int) (ts : List Thing) : Prop :=
  own wb = 6 ∧ Tidy own w ∧ ∃ hb ib, w.heap[wb]? = some (.cells #[cs, fs, .pointer (some ⟨hb, 0, none⟩), .pointer (some ⟨ib, 0, none⟩)] 37 (0, 0)) ∧ HeapAt own w hb bud sp ts ∧ IndexAt own w ib items
theorem WAt.frame {own own' : Nat → Nat} {w w' : World} {wb : Nat} {cs fs : Value} {items : List ByteArray} {bud sp : Int} {ts : List Thing} {S : Nat → Prop} (h : WAt own w wb cs fs items bud sp ts) (hf : Fr S w w')
    (hS : ∀ k, k < w.heap.size → own k ≠ 0 → ¬ S k ∧ own' k = own k) (ht : Tidy own' w') : WAt own' w' wb cs fs items bud sp ts := by
  obtain ⟨h6, hT, hb, ib, hW, hH, hI⟩ := h
  have a1 := hS wb (lt_of_block hW) (by rw [h6]; decide)
  refine ⟨a1.2.trans h6, ht, hb, ib, hf.same hW a1.1, hH.frame hf (fun k hk hi => hS k hk ?_), hI.frame hf (fun k hk hi => hS k hk ?_)⟩
  · rcases hi with hi | hi | hi <;> omega
  · rcases hi with hi | hi | hi <;> omega
theorem WAt.below {own : Nat → Nat} {w w' : World} {wb : Nat} {cs fs : Value} {items : List ByteArray} {bud sp : Int} {ts : List Thing} (h : WAt own w wb cs fs items bud sp ts) (hb : Below w.heap.size w w') : WAt own w' wb cs fs items bud sp ts :=
  h.frame (Fr.of_below (S := fun _ => False) hb) (fun _ _ _ => ⟨id, rfl⟩) (h.2.1.frame hb.size)
theorem WAt.tidy {own : Nat → Nat} {w : World} {wb : Nat} {cs fs : Value} {items : List ByteArray} {bud sp : Int} {ts : List Thing} (h : WAt own w wb cs fs items bud sp ts) : Tidy own w := h.2.1
theorem WAt.stp {own : Nat → Nat} {w w' : World} {wb : Nat} {cs fs : Value} {items : List ByteArray} {bud sp : Int} {ts : List Thing} (h : WAt own w wb cs fs items bud sp ts) (hb : Below w.heap.size w w') : Stp own own w w' := Stp.of_below hb h.2.1

/-- The text of this number, where there is one. -/
def textAt (items : List ByteArray) (i : Int) : Option ByteArray := if 0 ≤ i then items[i.toNat]? else none
theorem Intern_At {own : Nat → Nat} {w : World} {ib : Nat} {items : List ByteArray} (h : IndexAt own w ib items) (i : Int) :
    Calls Tryz.prog 18 #[.pointer (some ⟨ib, 0, none⟩), .int .i64 i] w fun e w' => e = .returned (.tuple #[.string ((textAt items i).getD ⟨#[]⟩), .bool (textAt items i).isSome]) ∧ w = w' := by
  unfold textAt
  by_cases h0 : 0 ≤ i
  · obtain ⟨n, rfl⟩ := Int.eq_ofNat_of_zero_le h0
    rw [if_pos h0]
    by_cases hn : n < items.length
    · have := Intern_At_yes h hn
      simpa [hn] using this
    · have := Intern_At_no h (i := n) (.inr (by omega))
      simpa [hn] using this
  · rw [if_neg h0]
    exact Intern_At_no h (.inl (by omega))
/-- The text that a value names. -/
def textOf (items : List ByteArray) (v : VV) : Option ByteArray := if v.1 = 4 then textAt items v.2 else none

theorem World_text {own : Nat → Nat} {w : World} {wb : Nat} {cs fs : Value} {items : List ByteArray} {bud sp : Int} {ts : List Thing} (h : WAt own w wb cs fs items bud sp ts) (v : VV) :
    Calls Tryz.prog 70 #[.pointer (some ⟨wb, 0, none⟩), vg v] w fun e w' => e = .returned (.tuple #[.string ((textOf items v).getD ⟨#[]⟩), .bool (textOf items v).isSome]) ∧ Below w.heap.size w w' := by
  unfold vg textOf
  obtain ⟨h6, hT, hb, ib, hW, hH, hI⟩ := h
  by_cases hv : v.1 = 4
  · rw [hv, if_pos rfl]
    have hA := fun W (hf : Fr (fun _ => False) w W) => Intern_At (hI.frame (own' := own) (w' := W) hf (fun _ _ _ => ⟨id, rfl⟩)) v.2
    generalize (textAt items v.2).getD ⟨#[]⟩ = s at *
    generalize (textAt items v.2).isSome = ok at *
    have c3 : (w.alloc (.cells #[.int .i64 4, .int .i64 v.2] 40)).cell? ⟨wb, 3, none⟩ = some (.pointer (some ⟨ib, 0, none⟩)) := cell_of_blk (blk_alloc hW _) 3
    clear hH hI
    go_enter Tryz.func70, Tryz.ntmps70
    go_wp2
    go_quiet (first | (go_at_call 18; exact (hA _ (((Fr.refl _ _).alloc _).drewN _)).mono fun _ _ h => ⟨h.1, _, h.2.symm⟩))
    go_wp2
    go_ret2
    exact ⟨rfl, below_drewN ((Below.refl _ _).alloc (Nat.le_refl _) _) _⟩
  · rw [if_neg hv]
    go_enter Tryz.func70, Tryz.ntmps70
    go_wp2
    go_ret2
    exact ⟨rfl, (Below.refl _ _).alloc (Nat.le_refl _) _⟩

theorem Heap_Spend_yes {own : Nat → Nat} {w : World} {hb : Nat} {bud sp : Int} {ts : List Thing} (h : HeapAt own w hb bud sp ts) (n : Int) (hsp : 0 ≤ sp) (hbud : 0 ≤ bud) (hb2 : bud ≤ 9223372036854775807) (hsp2 : sp ≤ 9223372036854775807) (hn : 0 ≤ n) (hle : n ≤ bud - sp) :
    Calls Tryz.prog 116 #[.pointer (some ⟨hb, 0, none⟩), .int .i64 n] w fun e w' => e = .returned (.bool true) ∧ HeapAt own w' hb bud (sp + n) ts ∧ Fr (fun k => own k = 1) w w' := by
  refine (Heap_Spend h n hsp hbud hb2 hsp2).mono fun e w' hq => ?_
  rcases hq with ⟨_, _, he, hH, hf⟩ | ⟨hc, _⟩
  · exact ⟨he, hH, hf⟩
  · omega
theorem Heap_Spend_no {own : Nat → Nat} {w : World} {hb : Nat} {bud sp : Int} {ts : List Thing} (h : HeapAt own w hb bud sp ts) (n : Int) (hsp : 0 ≤ sp) (hbud : 0 ≤ bud) (hb2 : bud ≤ 9223372036854775807) (hsp2 : sp ≤ 9223372036854775807) (hn : n < 0 ∨ bud - sp < n) :
    Calls Tryz.prog 116 #[.pointer (some ⟨hb, 0, none⟩), .int .i64 n] w fun e w' => e = .returned (.bool false) ∧ ∃ m, w' = w.drewN m := by
  refine (Heap_Spend h n hsp hbud hb2 hsp2).mono fun e w' hq => ?_
  rcases hq with ⟨h1, h2, he, hH, hf⟩ | ⟨hc, he, hm⟩
  · omega
  · exact ⟨he, hm⟩

def addT (items : List ByteArray) (s : ByteArray) : List ByteArray := if s ∈ items then items else items ++ [s]
theorem Intern_Add {own : Nat → Nat} {w : World} {ib : Nat} {items : List ByteArray} (h : IndexAt own w ib items) (hT : Tidy own w) (s : ByteArray) (hlen : items.length ≤ 4294967296) :
    Calls Tryz.prog 8 #[.pointer (some ⟨ib, 0, none⟩), .string s] w fun e w' => ∃ own', e = .returned (.int .i64 ((addT items s).idxOf s)) ∧ IndexAt own' w' ib (addT items s) ∧ Fr (isIdx own) w w' ∧ Tidy own' w' ∧ Ext own own' w := by
  unfold addT
  by_cases hs : s ∈ items
  · rw [if_pos hs]
    refine (Intern_Add_old h hs).mono fun e w' ⟨he, hw⟩ => ?_
    subst hw
    exact ⟨own, he, h, Fr.refl _ _, hT, Ext.refl _ _⟩
  · rw [if_neg hs]
    refine (Intern_Add_new h hs hlen).mono fun e w' ⟨own', he, hI, hf, ht, hx⟩ => ?_
    refine ⟨own', ?_, hI, hf, ht, hx⟩
    rw [he]
    simp [List.idxOf_append, hs]

theorem World_newText_no {own : Nat → Nat} {w : World} {wb : Nat} {cs fs : Value} {items : List ByteArray} {bud sp : Int} {ts : List Thing} (h : WAt own w wb cs fs items bud sp ts) (s : ByteArray) (hsp : 0 ≤ sp) (hsp2 : sp ≤ 9223372036854775807) (hbud : 0 ≤ bud) (hb2 : bud ≤ 9223372036854775807)
    (hs : s.size ≤ 140737488355328) (hroom : bud - sp < 1 + s.size) :
    Calls Tryz.prog 79 #[.pointer (some ⟨wb, 0, none⟩), .string s] w fun e w' => e = .returned (dn (0, 0) 0 true) ∧ Below w.heap.size w w' := by
  obtain ⟨h6, hT, hb, ib, hW, hH, hI⟩ := h
  have hS := fun W (hf : Fr (fun _ => False) w W) => Heap_Spend_no (hH.frame (own' := own) (w' := W) hf (fun _ _ _ => ⟨id, rfl⟩)) (1 + s.size) hsp hbud hb2 hsp2 (.inr hroom)
  have c2 : (w.alloc (.cells #[.int .i64 0, .int .i64 0, .int .i64 0, .bool false] 78)).cell? ⟨wb, 2, none⟩ = some (.pointer (some ⟨hb, 0, none⟩)) := cell_of_blk (blk_alloc hW _) 2
  clear hH hI
  go_enter Tryz.func79, Tryz.ntmps79
  go_wp2_with (go_at_call 116; go_loud (refine (hS _ ((Fr.refl _ _).alloc _)).mono ?_; rintro e w' ⟨rfl, m, rfl⟩))
  exact ret_c rfl rfl (put4 (w := (w.alloc _).drewN m) (blk_new w _)) Tryz.underlying78 rfl size_done rfl ⟨rfl, below_put4 (below_drewN ((Below.refl _ _).alloc (Nat.le_refl _) _) m) (Nat.le_refl _)⟩

theorem World_newText_yes {own : Nat → Nat} {w : World} {wb : Nat} {cs fs : Value} {items : List ByteArray} {bud sp : Int} {ts : List Thing} (h : WAt own w wb cs fs items bud sp ts) (s : ByteArray) (hsp : 0 ≤ sp) (hsp2 : sp ≤ 9223372036854775807) (hbud : 0 ≤ bud) (hb2 : bud ≤ 9223372036854775807)
    (hs : s.size ≤ 140737488355328) (hlen : items.length ≤ 4294967296) (hroom : 1 + s.size ≤ bud - sp) :
    Calls Tryz.prog 79 #[.pointer (some ⟨wb, 0, none⟩), .string s] w fun e w' => ∃ own', e = .returned (dn (4, (addT items s).idxOf s) 0 false) ∧ WAt own' w' wb cs fs (addT items s) bud (sp + (1 + s.size)) ts ∧ Stp own own' w w' := by
  obtain ⟨h6, hT, hb, ib, hW, hH, hI⟩ := h
  have hS := fun W (hf : Fr (fun _ => False) w W) => Heap_Spend_yes (hH.frame (own' := own) (w' := W) hf (fun _ _ _ => ⟨id, rfl⟩)) (1 + s.size) hsp hbud hb2 hsp2 (by omega) hroom
  have c2 : (w.alloc (.cells #[.int .i64 0, .int .i64 0, .int .i64 0, .bool false] 78)).cell? ⟨wb, 2, none⟩ = some (.pointer (some ⟨hb, 0, none⟩)) := cell_of_blk (blk_alloc hW _) 2
  have hown : own w.heap.size = 0 := hT _ (Nat.le_refl _)
  have f1 := (Fr.refl (fun _ => False) w).alloc (.cells #[.int .i64 0, .int .i64 0, .int .i64 0, .bool false] 78)
  have hW1 := blk_alloc hW (.cells #[.int .i64 0, .int .i64 0, .int .i64 0, .bool false] 78)
  have hI1 := hI.frame (own' := own) f1 (fun _ _ _ => ⟨id, rfl⟩)
  clear hH hI
  go_enter Tryz.func79, Tryz.ntmps79
  go_wp2_with (first
    | (go_at_call 116; go_loud (refine (hS _ f1).mono ?_; rintro e w1 ⟨rfl, hH1, f2⟩; have hW2 := f2.same hW1 (by rw [h6]; decide); have hR2 := f2.same (blk_new w _) (by rw [hown]; decide); have hI2 := hI1.frame (own' := own) f2 (fun k _ hk => ⟨(by intro e; unfold isIdx at hk; omega), rfl⟩); have c3 : w1.cell? ⟨wb, 3, none⟩ = some (.pointer (some ⟨ib, 0, none⟩)) := cell_of_blk hW2 3))
    | (go_at_call 8; go_loud (refine (Intern_Add hI2 (hT.frame (Nat.le_trans (by simp) f2.size)) s hlen).mono ?_; rintro e w2 ⟨own2, rfl, hI3, f3, ht3, hx3⟩; have hR3 := f3.same hR2 (by unfold isIdx; rw [hown]; decide)))
    | (go_at_call 77; go_loud (refine (ops_value _ (4, _)).mono ?_; rintro e w3 ⟨rfl, hb4⟩; unfold dn; have hR4 := below_blk hb4 (Nat.le_refl _) hR3; obtain ⟨d0, d1, d2, d3, g0, g1, g2, g3⟩ := at4 hR4)))
  have ho2 : ∀ k, k < w1.heap.size → own2 k = own k := hx3
  have h2 : own2 w.heap.size = 0 := (ho2 _ (lt_of_block hR2)).trans hown
  have f5 : Fr (fun k => k = w.heap.size) w2 ((((w3.setCell ⟨w.heap.size, 0, none⟩ (.int .i64 4)).setCell ⟨w.heap.size, 1, none⟩ (.int .i64 (List.idxOf s (addT items s)))).setCell ⟨w.heap.size, 2, none⟩ (.int .i64 0)).setCell ⟨w.heap.size, 3, none⟩ (.bool false)) :=
    Fr.put4 (Fr.of_below hb4) (.inl rfl)
  have hs1 := f2.size
  have hs2 := f3.size
  have hs5 := f5.size
  simp only [World.size_alloc] at hs1
  have hz : w.heap.size < w2.heap.size := lt_of_block hR3
  refine ret_c rfl rfl (put4 hR4) Tryz.underlying78 rfl size_done rfl ⟨own2, rfl, ⟨?_, ht3.frame hs5, hb, ib, ?_, ?_, ?_⟩, ?_, ?_, ht3.frame hs5⟩
  · exact (ho2 _ (lt_of_block hW2)).trans h6
  · exact f5.same (f3.same hW2 (by unfold isIdx; rw [h6]; decide)) (by intro e; rw [e, hown] at h6; cases h6)
  · refine HeapAt.frame (own := own2) (HeapAt.frame (own' := own2) hH1 f3 (fun k hk hi => ⟨?_, ho2 k hk⟩)) f5 (fun k hk hi => ⟨?_, rfl⟩)
    · unfold isIdx; unfold isHeap at hi; omega
    · intro e; subst e; unfold isHeap at hi; omega
  · refine hI3.frame f5 (fun k hk hi => ⟨?_, rfl⟩)
    intro e; subst e; unfold isIdx at hi; omega
  · exact (((f1.mono (fun _ _ h => h.elim)).trans' f2 (fun i _ (e : own i = 1) => by omega)).trans' f3 (fun i _ (e : isIdx own i) => by unfold isIdx at e; omega)).trans' f5 (fun i hi e => by omega)
  · exact hx3.mono (by omega)
end Go.Proofs.YtcbokgnogcmheaaGreatDoor
