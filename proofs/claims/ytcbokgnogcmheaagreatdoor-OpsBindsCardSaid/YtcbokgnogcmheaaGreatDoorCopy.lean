/-
  COPIES OF PROGRAMS (package portageref0): CopyInstrs, CopyFunction, CopyProgram: what was readable is readable again in new blocks.
-/
import Derived.Test.YtcbokgnogcmheaaGreatDoorHeap
import Derived.Deep.LoopGhost
import Derived.Deep.MidRow
namespace Go.Proofs.YtcbokgnogcmheaaGreatDoor
open Go.RowKit
set_option linter.unusedVariables false

def none0 : Nat → Nat := fun _ => 0
/-- A slice value that reads as these cells: n elements, so many cells each, in a block of which G holds. -/
def Rd (G : Nat → Prop) (w : World) (size : Nat) (A : Option Addr) (n : Nat) (xs : List Value) : Prop := xs.length = n * size ∧ (n = 0 ∨ ∃ g o, A = some ⟨g, o, none⟩ ∧ G g ∧ g < w.heap.size ∧ w.rangeAt g o xs)
section
variable {G G' : Nat → Prop} {w w' : World} {size n : Nat} {A : Option Addr} {xs : List Value}
theorem Rd.fr {S : Nat → Prop} (h : Rd G w size A n xs) (hf : Fr S w w') (hS : ∀ k, G k → k < w.heap.size → ¬ S k ∧ G' k) : Rd G' w' size A n xs := by
  refine ⟨h.1, h.2.imp id ?_⟩
  rintro ⟨g, o, hA, hG, hg, hr⟩
  have := hS g hG hg
  exact ⟨g, o, hA, this.2, Nat.lt_of_lt_of_le hg hf.size, fun j v hv => hf.cell (hr j v hv) this.1⟩
theorem Rd.below (h : Rd G w size A n xs) (hb : Below w.heap.size w w') : Rd G w' size A n xs := h.fr (Fr.of_below (S := fun _ => False) hb) (fun _ hk _ => ⟨id, hk⟩)
theorem Rd.mono (h : Rd G w size A n xs) (hG : ∀ k, G k → k < w.heap.size → G' k) : Rd G' w size A n xs := h.fr (Fr.refl (fun _ => False) w) (fun k hk hl => ⟨id, hG k hk hl⟩)
theorem Rd.set (h : Rd G w size A n xs) {p : Addr} (hp : ¬ G p.block) (u : Value) : Rd G (w.setCell p u) size A n xs :=
  h.fr ((Fr.refl (· = p.block) w).setCell (.inl rfl) u) (fun k hk _ => ⟨fun e => hp (e ▸ hk), hk⟩)
theorem Rd.put5 (h : Rd G w size A n xs) {g : Nat} (hp : ¬ G g) {x y z u v : Value} : Rd G (((((w.setCell ⟨g, 0, none⟩ x).setCell ⟨g, 1, none⟩ y).setCell ⟨g, 2, none⟩ z).setCell ⟨g, 3, none⟩ u).setCell ⟨g, 4, none⟩ v) size A n xs :=
  ((((h.set hp _).set hp _).set hp _).set hp _).set hp _
theorem Rd.nil (G : Nat → Prop) (w : World) (size : Nat) (A : Option Addr) : Rd G w size A 0 [] := ⟨by simp, .inl rfl⟩
theorem rd_of_row {own : Nat → Nat} {t : Nat} {e : TypeId} {v : Value} (h : Row own t w e size v n xs) (hG : ∀ k, own k = t → G k) : ∃ A c, v = .slice A n c ∧ Rd G w size A n xs := by
  obtain ⟨A, c, rfl, _, _⟩ := h.slice
  refine ⟨A, c, rfl, h.len, ?_⟩
  rcases Nat.eq_zero_or_pos n with hn | hn
  · exact .inl hn
  · obtain ⟨g, c', cur, hv, ho, _, _, hb, _, hcur⟩ := h.form hn
    injection hv with hA
    refine .inr ⟨g, 0, hA, hG g ho, lt_of_block hb, fun j u hu => ?_⟩
    have hj : j < n * size := by have := (List.getElem?_eq_some_iff.1 hu).1; rw [h.len] at this; exact this
    rw [cell_of_blk hb, Nat.zero_add, hcur j hj, hu]
end

theorem info_instr : (Tryz.prog.info? 44).map (fun i => (i.zero, i.size, i.bytes)) = some (some (.agg #[.int .i64 0, .int .i64 0]), 2, 16) := by kernel_rfl

/-- A copying loop's relation: i elements (each so many cells) are copied. -/
structure CopyI (B : Nat) (w : World) (e : TypeId) (size : Nat) (els : List (List Value)) (i : Nat) (own : Nat → Nat) (v : Value) (W : World) : Prop where
  row : Row own 1 W e size v i (els.take i).flatten
  tidy : Tidy own W
  ext : Ext none0 own w
  low : Below B w W
section
variable {B : Nat} {w W W2 : World} {e : TypeId} {size : Nat} {els : List (List Value)} {i : Nat} {own own2 : Nat → Nat} {v v2 : Value} {o : Obj}
theorem CopyI.start (B : Nat) (w : World) (e : TypeId) (size : Nat) (els : List (List Value)) : CopyI B w e size els 0 none0 (.slice none 0 0) w := ⟨by simpa using Row.nil _ _ _ _ _, fun _ _ => rfl, Ext.refl _ _, Below.refl _ _⟩
theorem CopyI.next (h : CopyI B w e size els i own v W) (hB : B ≤ w.heap.size) {x : List Value} (hi : els[i]? = some x)
    (hr : Row own2 1 W2 e size v2 (i + 1) ((els.take i).flatten ++ x)) (hf : Fr (fun k => v.ownBlock = some k) (W.alloc o) W2) (ht : Tidy own2 W2) (he : Ext own own2 (W.alloc o)) : CopyI B w e size els (i + 1) own2 v2 W2 := by
  refine ⟨?_, ht, fun k hk => ?_, ?_⟩
  · rw [List.take_add_one, hi]
    simpa using hr
  · rw [he k (by simp; have := h.low.size; omega), h.ext k hk]
  · refine (h.low.alloc (Nat.le_trans hB h.low.size) o).trans (hf.below (by simp; have := h.low.size; omega) (fun k hk e => ?_))
    have := h.row.2 k e
    rw [h.ext k (Nat.lt_of_lt_of_le hk hB)] at this
    cases this
theorem CopyI.drew (h : CopyI B w e size els i own v W) : CopyI B w e size els i own v W.drew :=
  ⟨h.row.frame (own' := own) ((Fr.refl (fun _ => False) W).drew) (fun k hk _ => ⟨id, hk⟩), h.tidy, h.ext, h.low.drew⟩
theorem CopyI.below (h : CopyI B w e size els i own v W) (hB : B ≤ w.heap.size) {W' : World} (hb : Below W.heap.size W W') : CopyI B w e size els i own v W' :=
  ⟨h.row.frame (own' := own) (Fr.of_below (S := fun _ => False) hb) (fun k hk _ => ⟨id, hk⟩), h.tidy.frame hb.size, h.ext, h.low.trans (hb.mono (Nat.le_trans hB h.low.size))⟩
theorem CopyI.set (h : CopyI B w e size els i own v W) {p : Addr} (hp : B ≤ p.block) (ho : own p.block = 0) (u : Value) : CopyI B w e size els i own v (W.setCell p u) :=
  ⟨h.row.frame ((Fr.refl (· = p.block) W).setCell (.inl rfl) u) (fun k hk _ => ⟨(fun e => by subst e; rw [ho] at hk; cases hk), hk⟩), h.tidy.frame (by simp [World.setCell]), h.ext, h.low.setCell hp u⟩
theorem CopyI.more (h : CopyI B w e size els i own v W) (hl : els.length = i) (x : List Value) : CopyI B w e size (els ++ [x]) i own v W :=
  ⟨by rw [List.take_append_of_le_length (by omega)]; exact h.row, h.tidy, h.ext, h.low⟩
theorem CopyI.rowA (h : CopyI B w e size els i own v W) (o : Obj) : Row own 1 (W.alloc o) e size v i (els.take i).flatten := h.row.frame ((Fr.refl (fun _ => False) W).alloc _) (fun k hk _ => ⟨id, hk⟩)
theorem CopyI.done (h : CopyI B w e size els i own v W) (hi : i = els.length) : ∃ A c, v = .slice A i c ∧ Rd (w.heap.size ≤ ·) W size A i els.flatten := by
  have := rd_of_row (G := (w.heap.size ≤ ·)) h.row (fun k hk => by
    rcases Nat.lt_or_ge k w.heap.size with h' | h'
    · have := h.ext k h'; rw [hk] at this; cases this
    · exact h')
  rwa [hi, List.take_length, ← hi] at this
/-- The cells of element i. -/
theorem flat_at (els : List (List Value)) (size : Nat) (hs : ∀ x ∈ els, x.length = size) (i j : Nat) {x : List Value} (hi : els[i]? = some x) (hj : j < size) : els.flatten[i * size + j]? = x[j]? := by
  induction els generalizing i with
  | nil => simp at hi
  | cons y ys ih =>
    have hy := hs y (by simp)
    cases i with
    | zero =>
      simp only [List.getElem?_cons_zero, Option.some.injEq] at hi
      subst hi
      rw [List.flatten_cons, List.getElem?_append_left (by omega)]
      simp
    | succ i =>
      have := ih (fun x hx => hs x (by simp [hx])) i (by simpa using hi)
      rw [List.flatten_cons, List.getElem?_append_right (by rw [hy, Nat.succ_mul]; omega), hy, show (i + 1) * size + j - size = i * size + j by rw [Nat.succ_mul]; omega, this]
end

set_option maxRecDepth 8000 in
theorem CopyInstrs {w : World} (A : Option Addr) (c : Nat) (l : List VV) (hs : Rd (fun _ => True) w 2 A l.length (vvs l)) (hlen : l.length ≤ 1099511627776) :
    Calls Tryz.prog 49 #[.slice A l.length c] w fun e w' => ∃ A' c', e = .returned (.slice A' l.length c') ∧ Rd (w.heap.size ≤ ·) w' 2 A' l.length (vvs l) ∧ Below w.heap.size w w' := by
  obtain ⟨i0, hi0, hz0, hz1, hz2⟩ := info_parts info_instr
  go_enter Tryz.func49, Tryz.ntmps49
  go_wp2
  go_loopg [3, 4] l.length (fun k vl vi wr => ∃ (i : Nat) (own : Nat → Nat), vi = .int .i64 i ∧ i + k = l.length ∧ CopyI w.heap.size w 44 2 (l.map vv) i own vl wr)
  case atStart => exact ⟨0, none0, rfl, by omega, CopyI.start _ _ _ _ _⟩
  case round =>
    obtain ⟨i, own, rfl, hik0, hC⟩ := hrel
    have hil : i ≤ l.length := by omega
    have hik : Aside (i + gk = l.length) := hik0
    clear hik0
    by_cases hlt : i < l.length
    · obtain ⟨g, o, rfl, _, hg, hr⟩ := hs.2.resolve_left (by omega)
      have c0 : wr.cell? ⟨g, o + i * 2, none⟩ = some (.int .i64 l[i].1) := below_cell hC.low (hr _ _ (vvs_at l i hlt).1) hg
      have c1 : wr.cell? ⟨g, o + i * 2 + 1, none⟩ = some (.int .i64 l[i].2) := below_cell hC.low (hr _ _ (vvs_at l i hlt).2) hg
      have b0 : (0 : Int) ≤ i := by omega
      have b1 : (i : Int) < l.length := by omega
      obtain ⟨A1, c1', rfl, hc, hcm⟩ := hC.row.slice
      have H : Aside (CopyI w.heap.size w 44 2 (l.map vv) i own (.slice A1 i c1') wr) := hC
      clear hC hr hs
      go_wp2_with (at_builtin; go_loud (refine wpList_append_Row rfl _ _ _ rfl own 1 44 i0 (.agg #[.int .i64 0, .int .i64 0]) 2 16 Tryz.underlying49 hi0 hz0 hz1 hz2 rfl (by decide) _ i _ rfl (H.out.rowA _) _ 1 1 (vv l[i]) rfl (Src.block (blk_new wr _) rfl) (by simp [vv, Value.oneCell']) (by unfold maxLen; omega) (by omega) ?_; rintro v2 w2 own2 hr2 hf2 ht2 he2; have H2 : Aside (CopyI w.heap.size w 44 2 (l.map vv) (i + 1) own2 v2 w2) := H.out.next (Nat.le_refl _) (by simp [hlt]) hr2 hf2 ht2 he2; clear hr2 hf2 ht2 he2 c0 c1))
      go_roundg (gk - 1)
      case measure => have := hik.out; omega
      case rel => exact ⟨i + 1, own2, by go_num, by have := hik.out; omega, H2.out⟩
    · obtain rfl : i = l.length := by omega
      clear hik
      go_wp2
      go_ret
      obtain ⟨A', c', hv, hR⟩ := hC.done (by simp)
      exact ⟨A', c', congrArg Ending.returned hv, hR, hC.low⟩
end Go.Proofs.YtcbokgnogcmheaaGreatDoor
