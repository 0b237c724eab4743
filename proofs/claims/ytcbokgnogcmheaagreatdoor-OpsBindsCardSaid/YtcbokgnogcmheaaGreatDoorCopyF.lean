/-
  COPIES OF FUNCTIONS (package portageref0).
-/
import Derived.Test.YtcbokgnogcmheaaGreatDoorCopy
namespace Go.Proofs.YtcbokgnogcmheaaGreatDoor
open Go.RowKit

structure FnD where
  name : ByteArray
  params : Int
  locals : Int
  code : List VV
  hands : List (Int × Int × Int × Int)
def hv (p : Int × Int × Int × Int) : List Value := [.int .i64 p.1, .int .i64 p.2.1, .int .i64 p.2.2.1, .int .i64 p.2.2.2]
def hcells (l : List (Int × Int × Int × Int)) : List Value := (l.map hv).flatten
/-- These five cells read as this function. -/
def FnAt (G : Nat → Prop) (w : World) (cells : List Value) (f : FnD) : Prop := ∃ A c A' c', cells = [.string f.name, .int .i64 f.params, .int .i64 f.locals, .slice A f.code.length c, .slice A' f.hands.length c'] ∧ Rd G w 2 A f.code.length (vvs f.code) ∧ Rd G w 4 A' f.hands.length (hcells f.hands)
theorem FnAt.fr {S G G' : Nat → Prop} {w w' : World} {cells : List Value} {f : FnD} (h : FnAt G w cells f) (hf : Fr S w w') (hS : ∀ k, G k → k < w.heap.size → ¬ S k ∧ G' k) : FnAt G' w' cells f := by
  obtain ⟨A, c, A', c', he, h1, h2⟩ := h
  exact ⟨A, c, A', c', he, h1.fr hf hS, h2.fr hf hS⟩
theorem FnAt.below {G : Nat → Prop} {w w' : World} {cells : List Value} {f : FnD} (h : FnAt G w cells f) (hb : Below w.heap.size w w') : FnAt G w' cells f := h.fr (Fr.of_below (S := fun _ => False) hb) (fun _ hk _ => ⟨id, hk⟩)
theorem info_handler : (Tryz.prog.info? 134).map (fun i => (i.zero, i.size, i.bytes)) = some (some (.agg #[.int .i64 0, .int .i64 0, .int .i64 0, .int .i64 0]), 4, 32) := by kernel_rfl
theorem size_function : (Tryz.prog.info? 52).map (·.size) = some 5 := by kernel_rfl
theorem hands_at (l : List (Int × Int × Int × Int)) (i : Nat) (h : i < l.length) : (hcells l)[i * 4]? = some (.int .i64 l[i].1) ∧ (hcells l)[i * 4 + 1]? = some (.int .i64 l[i].2.1) ∧ (hcells l)[i * 4 + 2]? = some (.int .i64 l[i].2.2.1) ∧ (hcells l)[i * 4 + 3]? = some (.int .i64 l[i].2.2.2) := by
  have hs : ∀ x ∈ l.map hv, x.length = 4 := by
    intro x hx
    obtain ⟨p, _, rfl⟩ := List.mem_map.1 hx
    rfl
  have hi : (l.map hv)[i]? = some (hv l[i]) := by simp [h]
  have k : ∀ j, j < 4 → (hcells l)[i * 4 + j]? = (hv l[i])[j]? := fun j hj => flat_at _ 4 hs i j hi hj
  exact ⟨k 0 (by decide), k 1 (by decide), k 2 (by decide), k 3 (by decide)⟩

set_option maxRecDepth 8000 in
theorem CopyFunction {w : World} (cells : List Value) (f : FnD) (h : FnAt (fun _ => True) w cells f) (hc1 : f.code.length ≤ 1099511627776) (hc2 : f.hands.length ≤ 1099511627776) :
    Calls Tryz.prog 30 #[.agg cells.toArray] w fun e w' => ∃ cells', e = .returned (.agg cells'.toArray) ∧ FnAt (w.heap.size ≤ ·) w' cells' f ∧ Below w.heap.size w w' := by
  obtain ⟨A, c, A', c', rfl, h1, h2⟩ := h
  obtain ⟨nm, pr, lc, cd, hs⟩ := f
  simp only at h1 h2 hc1 hc2 ⊢
  obtain ⟨i0, hi0, hz0, hz1, hz2⟩ := info_parts info_handler
  go_enter Tryz.func30, Tryz.ntmps30
  have hall := alloc3 w (.cells #[.string nm, .int .i64 pr, .int .i64 lc, .slice A cd.length c, .slice A' hs.length c'] 52) (.cells #[.string ⟨#[]⟩, .int .i64 0, .int .i64 0, .slice none 0 0, .slice none 0 0] 52) (.cells #[.string nm, .int .i64 pr, .int .i64 lc, .slice A cd.length c, .slice A' hs.length c'] 52)
  have b3 := below_alloc3 w (.cells #[.string nm, .int .i64 pr, .int .i64 lc, .slice A cd.length c, .slice A' hs.length c'] 52) (.cells #[.string ⟨#[]⟩, .int .i64 0, .int .i64 0, .slice none 0 0, .slice none 0 0] 52) (.cells #[.string nm, .int .i64 pr, .int .i64 lc, .slice A cd.length c, .slice A' hs.length c'] 52)
  have h1' := h1.below b3
  have hHall : Aside (_ ∧ _ ∧ _) := hall
  have hH1 : Aside (Rd (fun _ => True) _ 2 A cd.length (vvs cd)) := h1'
  clear hall h1 h1'
  go_wp2_with (go_at_call 49; go_loud (refine (CopyInstrs A c cd hH1.out hc1).mono ?_; rintro e w4 ⟨A4, c4, rfl, hR4, hb4⟩; have hB4 := below_blk hb4 (Nat.le_refl _) hHall.out.1; have hS4 := below_blk hb4 (Nat.le_refl _) hHall.out.2.1; have hX4 := below_blk hb4 (Nat.le_refl _) hHall.out.2.2; obtain ⟨x0, x1, x2, x3, x4, g0, g1, g2, g3, g4⟩ := at5 hX4))
  have hB5 := blk_far hB4 (p := ⟨w.heap.size + 1 + 1, 3, none⟩) (by simp; omega) (.slice A4 cd.length c4)
  have hS5 := blk_far hS4 (p := ⟨w.heap.size + 1 + 1, 3, none⟩) (by simp) (.slice A4 cd.length c4)
  have hX5 := blk_set hX4 3 (.slice A4 cd.length c4)
  have hR5 := (hR4.mono (G' := (w.heap.size + 1 + 1 + 1 ≤ ·)) (fun k hk _ => by simpa using hk)).set (p := ⟨w.heap.size + 1 + 1, 3, none⟩) (by simp) (.slice A4 cd.length c4)
  have b5 : Below w.heap.size w (w4.setCell ⟨w.heap.size + 1 + 1, 3, none⟩ (.slice A4 cd.length c4)) := (b3.trans (hb4.mono b3.size)).setCell (by simp; omega) _
  have hh5 := h2.below b5
  have hs4 := hb4.size
  simp only [World.size_alloc] at hs4
  have hz5 : w.heap.size + 1 + 1 + 1 ≤ (w4.setCell ⟨w.heap.size + 1 + 1, 3, none⟩ (.slice A4 cd.length c4)).heap.size := by simpa [World.setCell] using hs4
  generalize w4.setCell ⟨w.heap.size + 1 + 1, 3, none⟩ (.slice A4 cd.length c4) = w5 at *
  simp only [List.setIfInBounds_toArray, List.set_cons_zero, List.set_cons_succ] at hX5
  have HS5 : Aside (_ ∧ _) := ⟨hS5, hX5⟩
  have HR5 : Aside (Rd _ _ _ _ _ _) := hR5
  have HH5 : Aside (Rd (fun _ => True) w5 4 A' hs.length (hcells hs)) := hh5
  have bB : w.heap.size < w5.heap.size := by omega
  clear hB4 hS4 hX4 hS5 hX5 hR4 hR5 hh5 h2 hHall hH1 x0 x1 x2 x3 x4 g0 g1 g2 g3 g4 hb4 b3 hs4
  go_loopg [4, 5] hs.length (fun k vl vi wr => ∃ (i : Nat) (own : Nat → Nat), vi = .int .i64 i ∧ i + k = hs.length ∧ CopyI w5.heap.size w5 134 4 (hs.map hv) i own vl wr)
  case atStart => exact ⟨0, none0, rfl, by omega, CopyI.start _ _ _ _ _⟩
  case round =>
    obtain ⟨i, own, rfl, hik0, hC⟩ := hrel
    have hil : i ≤ hs.length := by omega
    have hik : Aside (i + gk = hs.length) := hik0
    clear hik0
    have c9 : wr.cell? ⟨w.heap.size, 4, none⟩ = some (.slice A' hs.length c') := below_cell hC.low (cell_of_blk hB5 4) bB
    by_cases hlt : i < hs.length
    · obtain ⟨g, o, rfl, _, hg, hr⟩ := HH5.out.2.resolve_left (by omega)
      obtain ⟨e0, e1, e2, e3⟩ := hands_at hs i hlt
      have c0 : wr.cell? ⟨g, o + i * 4, none⟩ = _ := below_cell hC.low (hr _ _ e0) hg
      have c1 : wr.cell? ⟨g, o + i * 4 + 1, none⟩ = _ := below_cell hC.low (hr _ _ e1) hg
      have c2 : wr.cell? ⟨g, o + i * 4 + 2, none⟩ = _ := below_cell hC.low (hr _ _ e2) hg
      have c3 : wr.cell? ⟨g, o + i * 4 + 3, none⟩ = _ := below_cell hC.low (hr _ _ e3) hg
      have b0 : (0 : Int) ≤ i := by omega
      have b1 : (i : Int) < hs.length := by omega
      obtain ⟨A1, c1', rfl, hc, hcm⟩ := hC.row.slice
      have H : Aside (CopyI w5.heap.size w5 134 4 (hs.map hv) i own (.slice A1 i c1') wr) := hC
      clear hC hr e0 e1 e2 e3 hB5
      go_wp2_with (at_builtin; go_loud (refine wpList_append_Row rfl _ _ _ rfl own 1 134 i0 (.agg #[.int .i64 0, .int .i64 0, .int .i64 0, .int .i64 0]) 4 32 Tryz.underlying50 hi0 hz0 hz1 hz2 rfl (by decide) _ i _ rfl (H.out.rowA _) _ 1 1 (hv hs[i]) rfl (Src.block (blk_new wr _) rfl) (by simp [hv, Value.oneCell']) (by unfold maxLen; omega) (by omega) ?_; rintro v2 w2 own2 hr2 hf2 ht2 he2; have H2 : Aside (CopyI w5.heap.size w5 134 4 (hs.map hv) (i + 1) own2 v2 w2) := H.out.next (Nat.le_refl _) (by simp [hlt]) hr2 hf2 ht2 he2; clear hr2 hf2 ht2 he2 c0 c1 c2 c3 c9))
      go_roundg (gk - 1)
      case measure => have := hik.out; omega
      case rel => exact ⟨i + 1, own2, by go_num, by have := hik.out; omega, H2.out⟩
    · obtain rfl : i = hs.length := by omega
      clear hik
      obtain ⟨A6, c6, rfl, hR6⟩ := hC.done (by simp)
      have hX6 := below_blk hC.low (Nat.le_refl _) HS5.out.2
      have hS6 := below_blk hC.low (Nat.le_refl _) HS5.out.1
      obtain ⟨x0, x1, x2, x3, x4, g0, g1, g2, g3, g4⟩ := at5 hX6
      obtain ⟨s0, s1, s2, s3, s4, f0, f1, f2, f3, f4⟩ := at5 hS6
      go_wp2
      have hS7 := blk_far hS6 (p := ⟨w.heap.size + 1 + 1, 4, none⟩) (by simp) (.slice A6 hs.length c6)
      refine ret_c rfl rfl (put5 hS7) Tryz.underlying52 rfl size_function rfl ⟨[.string nm, .int .i64 pr, .int .i64 lc, .slice A4 cd.length c4, .slice A6 hs.length c6], rfl, ⟨A4, c4, A6, c6, rfl, ?_, ?_⟩, ?_⟩
      · exact ((((HR5.out.below hC.low).set (p := ⟨w.heap.size + 1 + 1, 4, none⟩) (by simp) _).put5 (by omega)).mono (fun k hk _ => by omega))
      · exact ((((hR6.mono (fun k hk _ => Nat.le_trans hz5 hk)).set (p := ⟨w.heap.size + 1 + 1, 4, none⟩) (by simp) _).put5 (by omega)).mono (fun k hk _ => by omega))
      · exact below_put5 ((b5.trans (hC.low.mono b5.size)).setCell (by simp; omega) _) (by omega)
end Go.Proofs.YtcbokgnogcmheaaGreatDoor
