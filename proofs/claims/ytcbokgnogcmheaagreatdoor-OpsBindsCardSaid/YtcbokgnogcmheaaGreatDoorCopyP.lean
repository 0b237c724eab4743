/-
  COPIES OF PROGRAMS (package portageref0).
-/
import Derived.Test.YtcbokgnogcmheaaGreatDoorCopyF
import Derived.Deep.RegionLaw
namespace Go.Proofs.YtcbokgnogcmheaaGreatDoor
open Go.RowKit
set_option linter.unusedVariables false

structure CstD where
  kind : Int
  num : Int
  text : ByteArray
def cv (c : CstD) : List Value := [.int .i64 c.kind, .int .i64 c.num, .string c.text]
structure PrgD where
  consts : List CstD
  funcs : List FnD
/-- These cells read as these functions, five cells each. -/
def FnsAt (G : Nat → Prop) (w : World) (fcs : List (List Value)) (funcs : List FnD) : Prop := fcs.length = funcs.length ∧ (∀ x ∈ fcs, x.length = 5) ∧ ∀ (i : Nat) (f : FnD), funcs[i]? = some f → ∃ x, fcs[i]? = some x ∧ FnAt G w x f
def PrgAt (G : Nat → Prop) (w : World) (A : Option Addr) (A' : Option Addr) (p : PrgD) : Prop :=
  Rd G w 3 A p.consts.length (p.consts.map cv).flatten ∧ ∃ fcs, Rd G w 5 A' p.funcs.length fcs.flatten ∧ FnsAt G w fcs p.funcs
theorem FnsAt.fr {S G G' : Nat → Prop} {w w' : World} {fcs : List (List Value)} {fs : List FnD} (h : FnsAt G w fcs fs) (hf : Fr S w w') (hS : ∀ k, G k → k < w.heap.size → ¬ S k ∧ G' k) : FnsAt G' w' fcs fs :=
  ⟨h.1, h.2.1, fun i f hi => by obtain ⟨x, hx, hk⟩ := h.2.2 i f hi; exact ⟨x, hx, hk.fr hf hS⟩⟩
theorem FnsAt.below {G : Nat → Prop} {w w' : World} {fcs : List (List Value)} {fs : List FnD} (h : FnsAt G w fcs fs) (hb : Below w.heap.size w w') : FnsAt G w' fcs fs := h.fr (Fr.of_below (S := fun _ => False) hb) (fun _ hk _ => ⟨id, hk⟩)
theorem PrgAt.fr {S G G' : Nat → Prop} {w w' : World} {A A' : Option Addr} {p : PrgD} (h : PrgAt G w A A' p) (hf : Fr S w w') (hS : ∀ k, G k → k < w.heap.size → ¬ S k ∧ G' k) : PrgAt G' w' A A' p := by
  obtain ⟨h1, fcs, h2, h3⟩ := h
  exact ⟨h1.fr hf hS, fcs, h2.fr hf hS, h3.fr hf hS⟩
theorem FnsAt.more {G : Nat → Prop} {w : World} {fcs : List (List Value)} {fs : List FnD} {i : Nat} {x : List Value} {f : FnD} (h : FnsAt G w fcs (fs.take i)) (hi : i < fs.length) (hf : fs[i]? = some f) (hx : FnAt G w x f) : FnsAt G w (fcs ++ [x]) (fs.take (i + 1)) := by
  have hlen : fcs.length = i := by rw [h.1, List.length_take]; omega
  refine ⟨?_, ?_, ?_⟩
  · rw [List.length_append, hlen, List.length_take]; simp; omega
  · intro y hy
    rcases List.mem_append.1 hy with hy | hy
    · exact h.2.1 y hy
    · obtain ⟨A, c, A', c', rfl, _⟩ := hx
      simp at hy
      subst hy
      rfl
  · intro k g hk
    rw [List.getElem?_take] at hk
    split at hk
    · rename_i hlt
      rcases Nat.lt_or_ge k i with hki | hki
      · obtain ⟨y, hy, hg⟩ := h.2.2 k g (by rw [List.getElem?_take, if_pos hki]; exact hk)
        exact ⟨y, by rw [List.getElem?_append_left (by omega)]; exact hy, hg⟩
      · obtain rfl : k = i := by omega
        rw [hf] at hk
        injection hk with hk
        subst hk
        exact ⟨x, by rw [List.getElem?_append_right (by omega), hlen]; simp, hx⟩
    · cases hk
theorem info_const : (Tryz.prog.info? 94).map (fun i => (i.zero, i.size, i.bytes)) = some (some (.agg #[.int .i64 0, .int .i64 0, .string ⟨#[]⟩]), 3, 32) := by kernel_rfl
theorem info_function : (Tryz.prog.info? 52).map (fun i => (i.zero, i.size, i.bytes)) = some (some (.agg #[.string ⟨#[]⟩, .int .i64 0, .int .i64 0, .slice none 0 0, .slice none 0 0]), 5, 80) := by kernel_rfl
theorem size_program : (Tryz.prog.info? 29).map (·.size) = some 2 := by kernel_rfl
theorem consts_at (l : List CstD) (i : Nat) (h : i < l.length) : (l.map cv).flatten[i * 3]? = some (.int .i64 l[i].kind) ∧ (l.map cv).flatten[i * 3 + 1]? = some (.int .i64 l[i].num) ∧ (l.map cv).flatten[i * 3 + 2]? = some (.string l[i].text) := by
  have hs : ∀ x ∈ l.map cv, x.length = 3 := by
    intro x hx
    obtain ⟨p, _, rfl⟩ := List.mem_map.1 hx
    rfl
  have hi : (l.map cv)[i]? = some (cv l[i]) := by simp [h]
  have k : ∀ j, j < 3 → (l.map cv).flatten[i * 3 + j]? = (cv l[i])[j]? := fun j hj => flat_at _ 3 hs i j hi hj
  exact ⟨k 0 (by decide), k 1 (by decide), k 2 (by decide)⟩

set_option maxRecDepth 8000 in
theorem CopyProgram {w : World} (A A' : Option Addr) (c c' : Nat) (p : PrgD) (h : PrgAt (fun _ => True) w A A' p) (hc : p.consts.length ≤ 1099511627776) (hf : p.funcs.length ≤ 1099511627776) (hfc : ∀ f ∈ p.funcs, f.code.length ≤ 1099511627776 ∧ f.hands.length ≤ 1099511627776) :
    Calls Tryz.prog 21 #[.agg #[.slice A p.consts.length c, .slice A' p.funcs.length c']] w fun e w' => ∃ A2 c2 A3 c3, e = .returned (.agg #[.slice A2 p.consts.length c2, .slice A3 p.funcs.length c3]) ∧ PrgAt (w.heap.size ≤ ·) w' A2 A3 p ∧ Below w.heap.size w w' := by
  obtain ⟨cl, fl⟩ := p
  obtain ⟨h1, fcs, h2, h3⟩ := h
  simp only at h1 h2 h3 hc hf hfc ⊢
  obtain ⟨i0, hi0, hz0, hz1, hz2⟩ := info_parts info_const
  obtain ⟨j0, hj0, hy0, hy1, hy2⟩ := info_parts info_function
  have hall := alloc3 w (.cells #[.slice A cl.length c, .slice A' fl.length c'] 29) (.cells #[.slice none 0 0, .slice none 0 0] 29) (.cells #[.slice none 0 0, .slice none 0 0] 29)
  have b3 := below_alloc3 w (.cells #[.slice A cl.length c, .slice A' fl.length c'] 29) (.cells #[.slice none 0 0, .slice none 0 0] 29) (.cells #[.slice none 0 0, .slice none 0 0] 29)
  have hz : (((w.alloc (.cells #[.slice A cl.length c, .slice A' fl.length c'] 29)).alloc (.cells #[.slice none 0 0, .slice none 0 0] 29)).alloc (.cells #[.slice none 0 0, .slice none 0 0] 29)).heap.size = w.heap.size + 1 + 1 + 1 := by simp
  go_enter Tryz.func21, Tryz.ntmps21
  have Hin : Aside (Rd (fun _ => True) w 3 A cl.length (cl.map cv).flatten ∧ Rd (fun _ => True) w 5 A' fl.length fcs.flatten ∧ FnsAt (fun _ => True) w fcs fl) := ⟨h1, h2, h3⟩
  have Hall : Aside (_ ∧ _ ∧ _) := hall
  clear h1 h2 h3 hall
  go_wp2_with fail
  generalize (((w.alloc (.cells #[.slice A cl.length c, .slice A' fl.length c'] 29)).alloc (.cells #[.slice none 0 0, .slice none 0 0] 29)).alloc (.cells #[.slice none 0 0, .slice none 0 0] 29)) = w3 at *
  go_loopg [4] cl.length (fun k vi wr => ∃ (i : Nat) (own : Nat → Nat) (v : Value), vi = .int .i64 i ∧ i + k = cl.length ∧ CopyI (w.heap.size + 1 + 1) w3 94 3 (cl.map cv) i own v wr ∧ wr.heap[w.heap.size + 1 + 1]? = some (.cells #[v, .slice none 0 0] 29 (0, 0)))
  case atStart => exact ⟨0, none0, _, rfl, by omega, CopyI.start _ _ _ _ _, Hall.out.2.2⟩
  case round =>
    obtain ⟨i, own, v, rfl, hik0, hC, hQ⟩ := hrel
    have hil : i ≤ cl.length := by omega
    have hik : Aside (i + gk = cl.length) := hik0
    clear hik0
    have bl : Below w.heap.size w wr := b3.trans (hC.low.mono (by omega))
    have hBx := (hC.low.block w.heap.size (by omega)).trans Hall.out.1
    obtain ⟨p0, p1, _, _⟩ := at2 hBx
    obtain ⟨A1, c1', rfl, hc1, hcm1⟩ := hC.row.slice
    obtain ⟨q0, q1, qf0, qf1⟩ := at2 hQ
    by_cases hlt : i < cl.length
    · obtain ⟨g, o, rfl, _, hg, hr⟩ := Hin.out.1.2.resolve_left (by omega)
      obtain ⟨e0, e1, e2⟩ := consts_at cl i hlt
      have c0 : wr.cell? ⟨g, o + i * 3, none⟩ = _ := below_cell bl (hr _ _ e0) hg
      have c1 : wr.cell? ⟨g, o + i * 3 + 1, none⟩ = _ := below_cell bl (hr _ _ e1) hg
      have c2 : wr.cell? ⟨g, o + i * 3 + 2, none⟩ = _ := below_cell bl (hr _ _ e2) hg
      have b0 : (0 : Int) ≤ i := by omega
      have b1 : (i : Int) < cl.length := by omega
      clear hr e0 e1 e2
      go_wp2_with fail
      have hq0 : own (w.heap.size + 1 + 1) = 0 := hC.ext _ (by omega)
      have H : Aside (CopyI (w.heap.size + 1 + 1) w3 94 3 (cl.map cv) i own (.slice A1 i c1') wr) := hC
      have HQ : Aside (wr.heap[w.heap.size + 1 + 1]? = some (.cells #[.slice A1 i c1', .slice none 0 0] 29 (0, 0))) := hQ
      have k0 : (wr.alloc (.cells #[.int .i64 cl[i].kind, .int .i64 cl[i].num, .string cl[i].text] 94)).cell? ⟨w.heap.size + 1 + 1, 0, none⟩ = some (.slice A1 i c1') := cell_of_blk (blk_alloc HQ.out _) 0
      have hn : Aside ((wr.alloc (.cells #[.int .i64 cl[i].kind, .int .i64 cl[i].num, .string cl[i].text] 94)).drew.heap[wr.heap.size]? = some (.cells #[.int .i64 cl[i].kind, .int .i64 cl[i].num, .string cl[i].text] 94)) := blk_new wr _
      go_region_law
        ((refine step_append_Row rfl _ _ _ rfl own 1 94 i0 (.agg #[.int .i64 0, .int .i64 0, .string ⟨#[]⟩]) 3 32 Tryz.underlying26 hi0 hz0 hz1 hz2 rfl (by decide) _ i _ rfl (H.out.rowA _).drew _ 1 1 (cv cl[i]) rfl (Src.block hn.out rfl) (by simp [cv, Value.oneCell']) (by unfold maxLen; omega) (by omega) ?_; rintro v2 w2 own2 hr2 hf2 ht2 he2; obtain ⟨A2, c2', rfl, hc2, hcm2⟩ := hr2.slice; have hQ2 := hf2.undrew.same (blk_alloc HQ.out _) (fun e => by have := H.out.row.2 _ e; omega); obtain ⟨qq0, qq1, qqf0, qqf1⟩ := at2 hQ2))
      all_goals
        have hq2 : own2 (w.heap.size + 1 + 1) = 0 := (he2 _ (Nat.lt_of_lt_of_le (lt_of_block HQ.out) (by simp))).trans hq0
        have H2 : Aside (CopyI (w.heap.size + 1 + 1) w3 94 3 (cl.map cv) (i + 1) own2 (.slice A2 (i + 1) c2') (w2.setCell ⟨w.heap.size + 1 + 1, 0, none⟩ (.slice A2 (i + 1) c2'))) := (H.out.next (by omega) (by simp [hlt]) hr2 hf2.undrew ht2 he2).set (p := ⟨w.heap.size + 1 + 1, 0, none⟩) (Nat.le_refl _) hq2 _
        have hq3 : (w2.setCell ⟨w.heap.size + 1 + 1, 0, none⟩ (.slice A2 (i + 1) c2')).heap[w.heap.size + 1 + 1]? = some (.cells #[.slice A2 (i + 1) c2', .slice none 0 0] 29 (0, 0)) := by simpa using blk_set hQ2 0 (.slice A2 (i + 1) c2')
        have HQ2 : Aside (_ = _) := hq3
        clear hq3
        clear hr2 hf2 ht2 he2 hQ2 qq0 qq1 qqf0 qqf1 q0 q1 qf0 qf1 k0 c0 c1 c2 p0 p1 hC hQ hBx
        go_wp2_with fail
        go_roundg (gk - 1)
        case measure => have := hik.out; omega
        case rel => exact ⟨i + 1, own2, _, by go_num, by have := hik.out; omega, H2.out, HQ2.out⟩
    · obtain rfl : i = cl.length := by omega
      clear hik
      obtain ⟨A6, c6, hA6, hR6⟩ := hC.done (by simp)
      injection hA6 with hA6 _ hc6
      subst hA6 hc6
      go_wp2_with fail
      obtain ⟨w4, hw4⟩ : ∃ w4, w4 = wr := ⟨_, rfl⟩
      subst hw4
      have H4 : Aside (Below w.heap.size w w4 ∧ w.heap.size + 1 + 1 + 1 ≤ w4.heap.size ∧ w4.heap[w.heap.size]? = some _ ∧ w4.heap[w.heap.size + 1]? = some _) := ⟨bl, by have := hC.low.size; omega, hBx, (hC.low.block (w.heap.size + 1) (by omega)).trans Hall.out.2.1⟩
      have HR6 : Aside (Rd (w3.heap.size ≤ ·) w4 3 A1 cl.length (cl.map cv).flatten) := hR6
      have HQ4 : Aside (w4.heap[w.heap.size + 1 + 1]? = some (.cells #[.slice A1 cl.length c1', .slice none 0 0] 29 (0, 0))) := hQ
      clear bl hC hBx p0 p1 q0 q1 qf0 qf1 hR6 hQ Hall hi0 hz0 hz1 hz2 i0 b3
      go_loopg [5] fl.length (fun k vi wr => ∃ (i : Nat) (own : Nat → Nat) (els : List (List Value)) (v : Value), vi = .int .i64 i ∧ i + k = fl.length ∧ CopyI (w.heap.size + 1 + 1) w4 52 5 els i own v wr ∧ wr.heap[w.heap.size + 1 + 1]? = some (.cells #[.slice A1 cl.length c1', v] 29 (0, 0)) ∧
        FnsAt (fun k => w.heap.size + 1 + 1 < k ∧ own k = 0) wr els (fl.take i) ∧ Rd (fun k => w.heap.size + 1 + 1 < k ∧ own k = 0) wr 3 A1 cl.length (cl.map cv).flatten)
      case atStart => exact ⟨0, none0, [], _, rfl, by omega, CopyI.start _ _ _ _ _, HQ4.out, ⟨rfl, (by simp), fun i f h => (by simp at h)⟩, HR6.out.mono (fun k hk _ => ⟨(by omega), rfl⟩)⟩
      case round =>
        obtain ⟨i, own, els, v, rfl, hik0, hC, hQ, hF, hK⟩ := hrel
        have hil : i ≤ fl.length := by omega
        have hik : Aside (i + gk = fl.length) := hik0
        clear hik0
        obtain ⟨d1, d2, d3, d4⟩ := H4.out
        have bl : Below w.heap.size w wr := d1.trans (hC.low.mono (by omega))
        have hBx := (hC.low.block w.heap.size (by omega)).trans d3
        obtain ⟨p0, p1, _, _⟩ := at2 hBx
        obtain ⟨A7, c7, rfl, hc7, hcm7⟩ := hC.row.slice
        obtain ⟨q0, q1, qf0, qf1⟩ := at2 hQ
        by_cases hlt : i < fl.length
        · obtain ⟨g, o, rfl, _, hg, hr⟩ := Hin.out.2.1.2.resolve_left (by omega)
          obtain ⟨x, hx, A8, c8, A9, c9, rfl, r8, r9⟩ := Hin.out.2.2.2.2 i fl[i] (by simp [hlt])
          have hcell : ∀ j v, (5 : Nat) > j → ([.string fl[i].name, .int .i64 fl[i].params, .int .i64 fl[i].locals, .slice A8 fl[i].code.length c8, .slice A9 fl[i].hands.length c9] : List Value)[j]? = some v → wr.cell? ⟨g, o + (i * 5 + j), none⟩ = some v := fun j v hj hv => below_cell bl (hr _ _ ((flat_at fcs 5 Hin.out.2.2.2.1 i j hx hj).trans hv)) hg
          have c0 : wr.cell? ⟨g, o + i * 5, none⟩ = _ := hcell 0 _ (by decide) rfl
          have c1 : wr.cell? ⟨g, o + i * 5 + 1, none⟩ = _ := hcell 1 _ (by decide) rfl
          have c2 : wr.cell? ⟨g, o + i * 5 + 2, none⟩ = _ := hcell 2 _ (by decide) rfl
          have c3 : wr.cell? ⟨g, o + i * 5 + 3, none⟩ = _ := hcell 3 _ (by decide) rfl
          have c4 : wr.cell? ⟨g, o + i * 5 + 4, none⟩ = _ := hcell 4 _ (by decide) rfl
          have b0 : (0 : Int) ≤ i := by omega
          have b1 : (i : Int) < fl.length := by omega
          have hFW : Aside (FnAt (fun _ => True) wr _ fl[i]) := ⟨A8, c8, A9, c9, rfl, r8.below bl, r9.below bl⟩
          have hq0 : own (w.heap.size + 1 + 1) = 0 := hC.ext _ (by omega)
          have H : Aside (CopyI (w.heap.size + 1 + 1) w4 52 5 els i own (.slice A7 i c7) wr) := hC
          have HF : Aside (FnsAt _ wr els (fl.take i) ∧ Rd _ wr 3 A1 cl.length (cl.map cv).flatten) := ⟨hF, hK⟩
          have HQ : Aside (wr.heap[w.heap.size + 1 + 1]? = some _) := hQ
          have hl5 := (hfc fl[i] (List.getElem_mem hlt))
          clear hr hx hcell hC hF hK hQ r8 r9
          go_wp2_with (first
            | (go_at_call 30; go_loud (refine (CopyFunction _ _ hFW.out hl5.1 hl5.2).mono ?_; rintro e w5 ⟨cells', rfl, hF5, hb5⟩; obtain ⟨A10, c10, A11, c11, rfl, r10, r11⟩ := hF5; have hQ5 := below_blk hb5 (Nat.le_refl _) HQ.out; have kq : (w5.alloc (.cells #[.string fl[i].name, .int .i64 fl[i].params, .int .i64 fl[i].locals, .slice A10 fl[i].code.length c10, .slice A11 fl[i].hands.length c11] 52)).cell? ⟨w.heap.size + 1 + 1, 1, none⟩ = some (.slice A7 i c7) := cell_of_blk (blk_alloc hQ5 _) 1; have H5 : Aside (CopyI (w.heap.size + 1 + 1) w4 52 5 (els ++ [[.string fl[i].name, .int .i64 fl[i].params, .int .i64 fl[i].locals, .slice A10 fl[i].code.length c10, .slice A11 fl[i].hands.length c11]]) i own (.slice A7 i c7) (w5.alloc (.cells #[.string fl[i].name, .int .i64 fl[i].params, .int .i64 fl[i].locals, .slice A10 fl[i].code.length c10, .slice A11 fl[i].hands.length c11] 52))) := ((H.out.below (by omega) hb5).below (by omega) (below_alloc1 _ _)).more (by rw [HF.out.1.1, List.length_take]; omega) _; clear c0 c1 c2 c3 c4 q0 q1 qf0 qf1 p0 p1))
            | (at_builtin; go_loud (refine wpList_append_Row rfl _ _ _ rfl own 1 52 j0 (.agg #[.string ⟨#[]⟩, .int .i64 0, .int .i64 0, .slice none 0 0, .slice none 0 0]) 5 80 Tryz.underlying27 hj0 hy0 hy1 hy2 rfl (by decide) _ i _ rfl (H5.out.rowA _) _ 1 1 [.string fl[i].name, .int .i64 fl[i].params, .int .i64 fl[i].locals, .slice A10 fl[i].code.length c10, .slice A11 fl[i].hands.length c11] rfl (Src.block (heap_alloc2_new w5 _ _) rfl) (by simp [Value.oneCell']) (by unfold maxLen; omega) (by omega) ?_; rintro v2 w7 own2 hr2 hf2 ht2 he2; obtain ⟨A12, c12, rfl, hc12, hcm12⟩ := hr2.slice; have hQ7 := hf2.same (blk_alloc (blk_alloc hQ5 _) _) (fun e => by have := H.out.row.2 _ e; omega); obtain ⟨qq0, qq1, qqf0, qqf1⟩ := at2 hQ7)))
          have hlen : els.length = i := by rw [HF.out.1.1, List.length_take]; omega
          have hsz5 := hb5.size
          have hqlt := lt_of_block HQ.out
          have hq2 : own2 (w.heap.size + 1 + 1) = 0 := (he2 _ (by simp; omega)).trans hq0
          have hown1 : ∀ k, Value.ownBlock (.slice A7 i c7) = some k → own k = 1 := H.out.row.2
          have H8 := (H5.out.next (by omega) (x := [.string fl[i].name, .int .i64 fl[i].params, .int .i64 fl[i].locals, .slice A10 fl[i].code.length c10, .slice A11 fl[i].hands.length c11]) (by rw [List.getElem?_append_right (by omega), hlen]; simp) hr2 hf2 ht2 he2).set (p := ⟨w.heap.size + 1 + 1, 1, none⟩) (Nat.le_refl _) hq2 (.slice A12 (i + 1) c12)
          have hQ8 : (w7.setCell ⟨w.heap.size + 1 + 1, 1, none⟩ (.slice A12 (i + 1) c12)).heap[w.heap.size + 1 + 1]? = some (.cells #[.slice A1 cl.length c1', .slice A12 (i + 1) c12] 29 (0, 0)) := by simpa using blk_set hQ7 1 (.slice A12 (i + 1) c12)
          have f5 : Fr (fun k => own k = 1 ∨ k = w.heap.size + 1 + 1) w5 (w7.setCell ⟨w.heap.size + 1 + 1, 1, none⟩ (.slice A12 (i + 1) c12)) := ((((Fr.refl _ w5).alloc _).alloc _).trans' hf2 (fun k _ e => .inl (hown1 k e))).setCell (.inl (.inr rfl)) _
          have f8 : Fr (fun k => own k = 1 ∨ k = w.heap.size + 1 + 1) wr (w7.setCell ⟨w.heap.size + 1 + 1, 1, none⟩ (.slice A12 (i + 1) c12)) := (Fr.of_below hb5).trans f5
          have hG : ∀ k, (w.heap.size + 1 + 1 < k ∧ own k = 0) → k < wr.heap.size → ¬ (own k = 1 ∨ k = w.heap.size + 1 + 1) ∧ (w.heap.size + 1 + 1 < k ∧ own2 k = 0) := fun k hk hl => ⟨by omega, hk.1, (he2 k (by simp; omega)).trans hk.2⟩
          have hN : FnAt (wr.heap.size ≤ ·) w5 [.string fl[i].name, .int .i64 fl[i].params, .int .i64 fl[i].locals, .slice A10 fl[i].code.length c10, .slice A11 fl[i].hands.length c11] fl[i] := ⟨A10, c10, A11, c11, rfl, r10, r11⟩
          have hN8 := hN.fr f5 (G' := fun k => w.heap.size + 1 + 1 < k ∧ own2 k = 0) (fun k (hk : wr.heap.size ≤ k) hl => by
            have h0 : own k = 0 := H.out.tidy k hk
            exact ⟨by omega, by omega, (he2 k (by simp; omega)).trans h0⟩)
          have hF8 := (HF.out.1.fr f8 hG).more hlt (by simp [hlt]) hN8
          have hK8 := HF.out.2.fr f8 hG
          go_roundg (gk - 1)
          case measure => have := hik.out; omega
          case rel => exact ⟨i + 1, own2, _, _, by go_num, by have := hik.out; omega, H8, hQ8, hF8, hK8⟩
        · obtain rfl : i = fl.length := by omega
          clear hik
          have hlen : els.length = fl.length := by rw [hF.1, List.length_take]; omega
          obtain ⟨A9, c9, hv9, hR9⟩ := hC.done hlen.symm
          injection hv9 with hA9 _ hc9
          subst hA9 hc9
          have hRB := (hC.low.block (w.heap.size + 1) (by omega)).trans d4
          obtain ⟨s0, s1, sf0, sf1⟩ := at2 hRB
          have HK : Aside (FnsAt _ wr els (fl.take fl.length) ∧ Rd _ wr 3 A1 cl.length (cl.map cv).flatten) := ⟨hF, hK⟩
          have HR9 : Aside (Rd (w4.heap.size ≤ ·) wr 5 A7 fl.length els.flatten) := hR9
          clear hF hK hR9 hC
          go_wp2_with fail
          have hfp : Fr (fun k => k = w.heap.size + 1) wr ((wr.setCell ⟨w.heap.size + 1, 0, none⟩ (.slice A1 cl.length c1')).setCell ⟨w.heap.size + 1, 1, none⟩ (.slice A7 fl.length c7)) := Fr.put2 (Fr.refl _ _) (.inl rfl)
          have hG : ∀ k, (w.heap.size + 1 + 1 < k ∧ own k = 0) → k < wr.heap.size → ¬ (k = w.heap.size + 1) ∧ w.heap.size ≤ k := fun k hk _ => ⟨by omega, by omega⟩
          have hN := HK.out.1.fr hfp hG
          rw [List.take_length] at hN
          exact ret_c rfl rfl (put2 hRB) Tryz.underlying29 rfl size_program rfl ⟨A1, c1', A7, ⟨c7, rfl⟩, ⟨HK.out.2.fr hfp hG, els, HR9.out.fr hfp (fun k hk _ => ⟨by omega, by omega⟩), hN⟩, below_put2 bl (by omega)⟩
end Go.Proofs.YtcbokgnogcmheaaGreatDoor
