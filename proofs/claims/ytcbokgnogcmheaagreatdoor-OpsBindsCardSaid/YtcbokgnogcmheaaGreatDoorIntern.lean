/-
  THE INDEX OF TEXTS (package intern, at strings): what New, Add, At, Find and Len do to an index that is told as the list of its texts.
-/
import Derived.Test.YtcbokgnogcmheaaGreatDoorProg
import Derived.Test.YtcbokgnogcmheaaGreatDoorAppend
import Derived.Carry
import Derived.Maps.OwnOps
import Derived.BigQuiet
import Derived.Deep.QuietTactic
import Derived.Outline
namespace Go.Proofs.YtcbokgnogcmheaaGreatDoor
open Go.RowKit

/-- The index at block ib: parts 3 (its struct), 4 (its map), 5 (its row). -/
def IndexAt (own : Nat → Nat) (w : World) (ib : Nat) (items : List ByteArray) : Prop :=
  own ib = 3 ∧ items.Nodup ∧ ∃ mb iv, w.heap[ib]? = some (.cells #[.map (some mb), iv] 73 (0, 0)) ∧ own mb = 4 ∧ MapL w mb (strEntries items) ∧ Row own 5 w 9 1 iv items.length (items.map Value.string)
/-- What belongs to the index. -/
def isIdx (own : Nat → Nat) (k : Nat) : Prop := own k = 3 ∨ own k = 4 ∨ own k = 5
theorem IndexAt.frame {own own' : Nat → Nat} {w w' : World} {ib : Nat} {items : List ByteArray} {S : Nat → Prop} (h : IndexAt own w ib items) (hf : Fr S w w') (hS : ∀ k, k < w.heap.size → isIdx own k → ¬ S k ∧ own' k = own k) : IndexAt own' w' ib items := by
  obtain ⟨h1, hn, mb, iv, hb, h2, hm, hr⟩ := h
  have a1 := hS ib (lt_of_block hb) (.inl h1)
  have a2 := hS mb hm.lt (.inr (.inl h2))
  exact ⟨a1.2.trans h1, hn, mb, iv, hf.same hb a1.1, a2.2.trans h2, hm.frame hf a2.1, hr.frame hf (fun k hk hl => by have := hS k hl (.inr (.inr hk)); exact ⟨this.1, this.2.trans hk⟩)⟩

theorem zero_int (w : World) : (zeroValue 3).run Tryz.prog w = .ok (.int .i64 0) w := by kernel_rfl
theorem info_string : (Tryz.prog.info? 9).map (fun i => (i.zero, i.size, i.bytes)) = some (some (.string ⟨#[]⟩), 1, 16) := by kernel_rfl

theorem Intern_New (w : World) : Calls Tryz.prog 29 #[] w fun e w' => e = .returned (.pointer (some ⟨w.heap.size + 1, 0, none⟩)) ∧ w' = (w.alloc (.map #[] 0)).alloc (.cells #[.map (some w.heap.size), .slice none 0 0] 73) := by
  have hmm := @run_makeMap Tryz.prog
  go_enter Tryz.func29, Tryz.ntmps29
  go_wp2
  go_ret
  exact ⟨rfl, rfl⟩

theorem Intern_At_yes {own : Nat → Nat} {w : World} {ib : Nat} {items : List ByteArray} (h : IndexAt own w ib items) {i : Nat} (hi : i < items.length) :
    Calls Tryz.prog 18 #[.pointer (some ⟨ib, 0, none⟩), .int .i64 i] w fun e w' => e = .returned (.tuple #[.string items[i], .bool true]) ∧ w = w' := by
  obtain ⟨h1, hn, mb, iv, hb, h2, hm, hr⟩ := h
  obtain ⟨g, c, cur, rfl, _, hc, hcm, hg, _, hcur⟩ := hr.form (by omega)
  have c1 : w.cell? ⟨ib, 1, none⟩ = some (.slice (some ⟨g, 0, none⟩) items.length c) := by simp [cell_of_blk hb]
  have c2 : w.cell? ⟨g, i, none⟩ = some (.string items[i]) := by rw [cell_of_blk hg, hcur i (by omega)]; simp [hi]
  have hlen : items.length ≤ 9223372036854775807 := by unfold maxLen at hcm; omega
  clear hcur hm hr hn
  go_enter Tryz.func18, Tryz.ntmps18
  go_wp2
  go_ret2
  exact ⟨rfl, rfl⟩

theorem Intern_At_no {own : Nat → Nat} {w : World} {ib : Nat} {items : List ByteArray} (h : IndexAt own w ib items) {i : Int} (hi : i < 0 ∨ items.length ≤ i) :
    Calls Tryz.prog 18 #[.pointer (some ⟨ib, 0, none⟩), .int .i64 i] w fun e w' => e = .returned (.tuple #[.string ⟨#[]⟩, .bool false]) ∧ w = w' := by
  obtain ⟨h1, hn, mb, iv, hb, h2, hm, hr⟩ := h
  obtain ⟨A, c, rfl, hc, hcm⟩ := hr.slice
  have c1 : w.cell? ⟨ib, 1, none⟩ = some (.slice A items.length c) := by simp [cell_of_blk hb]
  clear hm hr hn h1 h2 hb
  rcases hi with hi | hi
  · go_enter Tryz.func18, Tryz.ntmps18
    go_wp2
    go_ret2
    exact ⟨rfl, rfl⟩
  · have h0 : 0 ≤ i := by omega
    go_enter Tryz.func18, Tryz.ntmps18
    go_wp2
    go_ret2
    exact ⟨rfl, rfl⟩

theorem Intern_Len {own : Nat → Nat} {w : World} {ib : Nat} {items : List ByteArray} (h : IndexAt own w ib items) :
    Calls Tryz.prog 93 #[.pointer (some ⟨ib, 0, none⟩)] w fun e w' => e = .returned (.int .i64 items.length) ∧ w = w' := by
  obtain ⟨h1, hn, mb, iv, hb, h2, hm, hr⟩ := h
  obtain ⟨A, c, rfl, hc, hcm⟩ := hr.slice
  have c1 : w.cell? ⟨ib, 1, none⟩ = some (.slice A items.length c) := by simp [cell_of_blk hb]
  clear hm hr hn h1 h2 hb
  go_enter Tryz.func93, Tryz.ntmps93
  go_wp2
  go_ret
  exact ⟨rfl, rfl⟩

theorem Intern_Find {own : Nat → Nat} {w : World} {ib : Nat} {items : List ByteArray} (h : IndexAt own w ib items) (s : ByteArray) :
    Calls Tryz.prog 92 #[.pointer (some ⟨ib, 0, none⟩), .string s] w fun e w' => e = .returned (.tuple #[.int .i64 (if s ∈ items then (items.idxOf s : Int) else 0), .bool (decide (s ∈ items))]) ∧ w = w' := by
  obtain ⟨h1, hn, mb, iv, hb, h2, hm, hr⟩ := h
  have c0 : w.cell? ⟨ib, 0, none⟩ = some (.map (some mb)) := by simp [cell_of_blk hb]
  have hl := run_lookup_str (P := Tryz.prog) (t := 71) (k := 9) (e := 3) Tryz.underlying71 Tryz.underlying9 zero_int hm s
  generalize (if s ∈ items then (items.idxOf s : Int) else 0) = r at *
  generalize decide (s ∈ items) = d at *
  clear hm hr hn h1 h2 hb
  go_enter Tryz.func92, Tryz.ntmps92
  go_wp2
  go_ret2
  exact ⟨rfl, rfl⟩

theorem Intern_Add_old {own : Nat → Nat} {w : World} {ib : Nat} {items : List ByteArray} (h : IndexAt own w ib items) {s : ByteArray} (hs : s ∈ items) :
    Calls Tryz.prog 8 #[.pointer (some ⟨ib, 0, none⟩), .string s] w fun e w' => e = .returned (.int .i64 (items.idxOf s)) ∧ w = w' := by
  obtain ⟨h1, hn, mb, iv, hb, h2, hm, hr⟩ := h
  have c0 : w.cell? ⟨ib, 0, none⟩ = some (.map (some mb)) := by simp [cell_of_blk hb]
  have hl := run_lookup_str (P := Tryz.prog) (t := 71) (k := 9) (e := 3) Tryz.underlying71 Tryz.underlying9 zero_int hm s
  rw [if_pos hs, decide_eq_true hs] at hl
  clear hm hr hn h1 h2 hb hs
  go_enter Tryz.func8, Tryz.ntmps8
  go_wp2
  go_ret
  exact ⟨rfl, rfl⟩

theorem Intern_Add_new {own : Nat → Nat} {w : World} {ib : Nat} {items : List ByteArray} (h : IndexAt own w ib items) {s : ByteArray} (hs : s ∉ items) (hlen : items.length ≤ 4294967296) :
    Calls Tryz.prog 8 #[.pointer (some ⟨ib, 0, none⟩), .string s] w fun e w' => ∃ own', e = .returned (.int .i64 items.length) ∧ IndexAt own' w' ib (items ++ [s]) ∧ Fr (isIdx own) w w' ∧ Tidy own' w' ∧ Ext own own' w := by
  obtain ⟨h1, hn, mb, iv, hb, h2, hm, hr⟩ := h
  have c0 : w.cell? ⟨ib, 0, none⟩ = some (.map (some mb)) := by simp [cell_of_blk hb]
  obtain ⟨A, c, rfl, hc, hcm⟩ := hr.slice
  have c1 : w.cell? ⟨ib, 1, none⟩ = some (.slice A items.length c) := by simp [cell_of_blk hb]
  have hl := run_lookup_str (P := Tryz.prog) (t := 71) (k := 9) (e := 3) Tryz.underlying71 Tryz.underlying9 zero_int hm s
  rw [if_neg hs, decide_eq_false hs] at hl
  obtain ⟨i0, hi0, hz0, hz1, hz2⟩ := info_parts info_string
  go_enter Tryz.func8, Tryz.ntmps8
  go_wp2_with (first
    | (at_mapUpdate
       refine wpList_mapUpdate_R rfl _ _ _ _ rfl _ _ _ rfl rfl rfl (fun W => MapL W mb (strEntries (items ++ [s])) ∧ Fr (· = mb) w W) (run_store_str Tryz.underlying71 Tryz.underlying9 hm hs) ?_
       rintro w1 ⟨hm1, hf1⟩
       have hb1 := hf1.same hb (by intro e; subst e; rw [h1] at h2; cases h2)
       have c10 : w1.cell? ⟨ib, 0, none⟩ = some (.map (some mb)) := by simp [cell_of_blk hb1]
       have c11 : w1.cell? ⟨ib, 1, none⟩ = some (.slice A items.length c) := by simp [cell_of_blk hb1]
       have c12 := frozen_of_blk hb1 1
       clear c0 c1 hl)
    | (at_builtin
       (refine wpList_append_Row rfl _ _ _ rfl own 5 9 i0 (.string ⟨#[]⟩) 1 16 Tryz.underlying30 hi0 hz0 hz1 hz2 rfl (by decide) _ items.length (items.map Value.string) rfl ((hr.frame hf1 (own' := own) (fun k hk _ => ⟨(fun e => absurd ((e ▸ hk : own mb = 5).symm.trans h2) (by decide)), hk⟩)).frame ((Fr.refl (fun _ => False) w1).alloc _) (fun k hk _ => ⟨id, hk⟩)) _ 1 1 [.string s] rfl Src.one (by simp [Value.oneCell']) (by unfold maxLen; omega) (by omega) ?_)
       rintro v2 w2 own2 hr2 hf2 ht2 he2
       obtain ⟨A2, c2, rfl, hc2, hcm2⟩ := hr2.slice
       have hf2 := hf2.mono (S' := fun k => own k = 5) (fun i _ e => hr.2 i e)
       have hb2 := hf2.same (blk_alloc hb1 _) (by rw [h1]; decide)
       have c20 : w2.cell? ⟨ib, 0, none⟩ = some (.map (some mb)) := by simp [cell_of_blk hb2]
       have c21 : w2.cell? ⟨ib, 1, none⟩ = some (.slice A items.length c) := by simp [cell_of_blk hb2]
       have c22 := frozen_of_blk hb2 1
       clear c10 c11 c12))
  go_ret
  have hs1 := hf1.size
  have hs2 := hf2.size
  have hib := lt_of_block hb
  have hmb := hm.lt
  have e1 : own2 ib = 3 := (he2 ib (by simp; omega)).trans h1
  have e2 : own2 mb = 4 := (he2 mb (by simp; omega)).trans h2
  have fS := (Fr.refl (· = ib) w2).setCell (p := ⟨ib, 1, none⟩) (.inl rfl) (.slice A2 (items.length + 1) c2)
  refine ⟨own2, rfl, ⟨e1, ?_, mb, .slice A2 (items.length + 1) c2, ?_, e2, ?_, ?_⟩, ?_, ht2.frame (by simp [World.setCell]), he2.mono (by simp; omega)⟩
  · rw [List.nodup_append]
    exact ⟨hn, by simp, fun x hx y hy => by simp at hy; subst hy; exact fun e => hs (e ▸ hx)⟩
  · have := blk_set hb2 1 (.slice A2 (items.length + 1) c2)
    simpa using this
  · exact ((hm1.frame ((Fr.refl (fun _ => False) w1).alloc _) id).frame hf2 (by rw [h2]; decide)).frame fS (fun e => absurd (e ▸ h2 : own ib = 4) (by rw [h1]; decide))
  · have := hr2.frame (own' := own2) fS (fun k hk _ => ⟨fun e => absurd (e ▸ hk : own2 ib = 5) (by rw [e1]; decide), hk⟩)
    simpa using this
  · refine Fr.setCell (Fr.trans' (Fr.alloc (hf1.mono ?_) _) hf2 ?_) (.inl (.inl h1)) _
    · intro i _ e
      exact .inr (.inl (e ▸ h2))
    · intro i _ e
      exact .inr (.inr e)
end Go.Proofs.YtcbokgnogcmheaaGreatDoor
