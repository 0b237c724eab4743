/-
  A WORLD IS MADE (portagelaw13.made), without objects: heap.Load of none, intern.From of distinct texts, the copy of the program.
-/
import Derived.Test.YtcbokgnogcmheaaGreatDoorCopyP
import Derived.Test.YtcbokgnogcmheaaGreatDoorWorld
namespace Go.Proofs.YtcbokgnogcmheaaGreatDoor
open Go.RowKit
set_option linter.unusedVariables false

theorem aside {p : Prop} (h : p) : Aside p := h
theorem Load_none (w : World) (b s : Int) (c : Nat) : Calls Tryz.prog 19 #[.int .i64 b, .int .i64 s, .slice none 0 c] w fun e w' => e = .returned (.tuple #[.pointer (some ⟨w.heap.size, 0, none⟩), .bool true]) ∧ w' = w.alloc (.cells #[.int .i64 (max b 0), .int .i64 (max s 0), .slice none 0 0] 82) := by
  go_enter Tryz.func19, Tryz.ntmps19
  go_wp2_with (go_at_call 26; go_loud (refine (Heap_New _ b s).mono ?_; rintro e w1 ⟨rfl, rfl⟩))
  refine wp_loop_once ?_
  go_wp2
  refine wp_loop_once ?_
  go_wp2
  go_ret2
  exact ⟨rfl, rfl⟩

/-- The texts' loop: i of them are in. -/
structure FromI (w : World) (own0 : Nat → Nat) (ib : Nat) (l : List ByteArray) (i : Nat) (own : Nat → Nat) (W : World) : Prop where
  idx : IndexAt own W ib (l.take i)
  tidy : Tidy own W
  ext : Ext own0 own w
  low : Below w.heap.size w W

set_option maxRecDepth 8000 in
theorem From_new {w : World} {own0 : Nat → Nat} (hT : Tidy own0 w) (hno : ∀ k, ¬ isIdx own0 k) (A : Option Addr) (c : Nat) (l : List ByteArray) (hs : Rd (fun _ => True) w 1 A l.length (l.map Value.string)) (hnd : l.Nodup) (hlen : l.length ≤ 4294967296) :
    Calls Tryz.prog 20 #[.slice A l.length c] w fun e w' => ∃ ib own, e = .returned (.tuple #[.pointer (some ⟨ib, 0, none⟩), .bool true]) ∧ IndexAt own w' ib l ∧ Tidy own w' ∧ Ext own0 own w ∧ Below w.heap.size w w' := by
  go_enter Tryz.func20, Tryz.ntmps20
  go_wp2_with (go_at_call 29; go_loud (refine (Intern_New _).mono ?_; rintro e w1 ⟨rfl, rfl⟩))
  have h0 : FromI w own0 (w.heap.size + 1) l 0 (fun k => if k = w.heap.size then 4 else if k = w.heap.size + 1 then 3 else own0 k) ((w.alloc (.map #[] 0)).alloc (.cells #[.map (some w.heap.size), .slice none 0 0] 73)) := by
    refine ⟨⟨by simp, by simp, w.heap.size, _, heap_alloc2_new _ _ _, by simp, ?_, by simpa using Row.nil _ _ _ _ _⟩, fun k hk => ?_, fun k hk => ?_, below_alloc2 _ _ _⟩
    · exact (MapL.made w).frame ((Fr.refl (fun _ => False) _).alloc _) id
    · simp at hk
      have := hT k (by omega)
      rw [if_neg (by omega), if_neg (by omega), this]
    · rw [if_neg (by omega), if_neg (by omega)]
  go_loopg [10] l.length (fun k vi wr => ∃ (i : Nat) (own : Nat → Nat), vi = .int .i64 i ∧ i + k = l.length ∧ FromI w own0 (w.heap.size + 1) l i own wr)
  case atStart => exact ⟨0, _, rfl, by omega, h0⟩
  case round =>
    obtain ⟨i, own, rfl, hik0, hC⟩ := hrel
    have hil : i ≤ l.length := by omega
    have hik : Aside (i + gk = l.length) := hik0
    clear hik0 h0
    by_cases hlt : i < l.length
    · obtain ⟨g, o, rfl, _, hg, hr⟩ := hs.2.resolve_left (by omega)
      have c0 : wr.cell? ⟨g, o + i, none⟩ = some (.string l[i]) := below_cell hC.low (hr i _ (by simp [hlt])) hg
      have b0 : (0 : Int) ≤ i := by omega
      have b1 : (i : Int) < l.length := by omega
      have hni : l[i] ∉ l.take i := by
        intro hm
        obtain ⟨j, hj, he⟩ := List.mem_iff_getElem.1 hm
        rw [List.length_take] at hj
        rw [List.getElem_take] at he
        exact List.pairwise_iff_getElem.1 hnd j i (by omega) hlt (by omega) he
      have hlt' : (l.take i).length = i := by rw [List.length_take]; omega
      have H : Aside (FromI w own0 (w.heap.size + 1) l i own wr) := hC
      clear hC hr
      go_wp2_with (go_at_call 8; go_loud (refine (Intern_Add_new H.out.idx hni (by omega)).mono ?_; rintro e w2 ⟨own2, rfl, hI2, hf2, ht2, hx2⟩; rw [hlt']))
      have hidx : ∀ k, isIdx own k → w.heap.size ≤ k := fun k hk => by
        rcases Nat.lt_or_ge k w.heap.size with h | h
        · have := H.out.ext k h
          unfold isIdx at hk
          rw [this] at hk
          exact absurd hk (hno k)
        · exact h
      have hsz := H.out.low.size
      have H2 : FromI w own0 (w.heap.size + 1) l (i + 1) own2 w2 := by
        refine ⟨?_, ht2, fun k hk => (hx2 k (by omega)).trans (H.out.ext k hk), H.out.low.trans (hf2.below (by omega) (fun k hk e => by have := hidx k e; omega))⟩
        rw [List.take_add_one, List.getElem?_eq_getElem hlt]
        exact hI2
      go_roundg (gk - 1)
      case measure => have := hik.out; omega
      case rel => exact ⟨i + 1, own2, by go_num, by have := hik.out; omega, H2⟩
    · obtain rfl : i = l.length := by omega
      clear hik
      go_wp2
      go_ret2
      have := hC.idx
      rw [List.take_length] at this
      exact ⟨_, own, rfl, this, hC.tidy, hC.ext, hC.low⟩

set_option maxRecDepth 4000 in
theorem made_none {w : World} {A A' At : Option Addr} {c c' ct c0 : Nat} {p : PrgD} {l : List ByteArray} (hp : PrgAt (fun _ => True) w A A' p) (hc : p.consts.length ≤ 1099511627776) (hf : p.funcs.length ≤ 1099511627776) (hfc : ∀ f ∈ p.funcs, f.code.length ≤ 1099511627776 ∧ f.hands.length ≤ 1099511627776)
    (hl : Rd (fun _ => True) w 1 At l.length (l.map Value.string)) (hnd : l.Nodup) (hlen : l.length ≤ 4294967296) (b s : Int) :
    Calls Tryz.prog 7 #[.agg #[.slice A p.consts.length c, .slice A' p.funcs.length c', .slice At l.length ct, .slice none 0 c0, .int .i64 b, .int .i64 s]] w fun e w' =>
      ∃ wb own A2 c2 A3 c3, e = .returned (.pointer (some ⟨wb, 0, none⟩)) ∧ WAt own w' wb (.slice A2 p.consts.length c2) (.slice A3 p.funcs.length c3) l (max b 0) (max s 0) [] ∧ (∀ k, k < w.heap.size → own k = 0) ∧ PrgAt (fun k => own k = 0) w' A2 A3 p ∧ Below w.heap.size w w' := by
  have hB2 := heap_alloc2_old w (.cells #[.slice A p.consts.length c, .slice A' p.funcs.length c', .slice At l.length ct, .slice none 0 c0, .int .i64 b, .int .i64 s] 33) (.cells #[.int .i64 (max b 0), .int .i64 (max s 0), .slice none 0 0] 82)
  have hH2 := heap_alloc2_new w (.cells #[.slice A p.consts.length c, .slice A' p.funcs.length c', .slice At l.length ct, .slice none 0 c0, .int .i64 b, .int .i64 s] 33) (.cells #[.int .i64 (max b 0), .int .i64 (max s 0), .slice none 0 0] 82)
  have b2 := below_alloc2 w (.cells #[.slice A p.consts.length c, .slice A' p.funcs.length c', .slice At l.length ct, .slice none 0 c0, .int .i64 b, .int .i64 s] 33) (.cells #[.int .i64 (max b 0), .int .i64 (max s 0), .slice none 0 0] 82)
  have hz2 : ((w.alloc (.cells #[.slice A p.consts.length c, .slice A' p.funcs.length c', .slice At l.length ct, .slice none 0 c0, .int .i64 b, .int .i64 s] 33)).alloc (.cells #[.int .i64 (max b 0), .int .i64 (max s 0), .slice none 0 0] 82)).heap.size = w.heap.size + 1 + 1 := by simp
  have hT1 : Tidy (fun k => if k = w.heap.size + 1 then 1 else 0) ((w.alloc (.cells #[.slice A p.consts.length c, .slice A' p.funcs.length c', .slice At l.length ct, .slice none 0 c0, .int .i64 b, .int .i64 s] 33)).alloc (.cells #[.int .i64 (max b 0), .int .i64 (max s 0), .slice none 0 0] 82)) := fun k hk => by
    rw [hz2] at hk
    show (if k = w.heap.size + 1 then 1 else 0) = 0
    rw [if_neg (by omega)]
  have hno1 : ∀ k, ¬ isIdx (fun k => if k = w.heap.size + 1 then 1 else 0) k := fun k => by unfold isIdx; dsimp only; split <;> omega
  have HF := aside (From_new hT1 hno1 At ct l (hl.fr (Fr.of_below (S := fun _ => False) b2) (fun _ _ _ => ⟨id, trivial⟩)) hnd hlen)
  clear hT1 hno1
  go_enter Tryz.func7, Tryz.ntmps7
  go_wp2_with (first
    | (go_at_call 19; go_loud (refine (Load_none _ b s c0).mono ?_; rintro e w2 ⟨rfl, rfl⟩))
    | (go_at_call 20; go_loud (refine HF.out.mono ?_; rintro e w3 ⟨ib, own3, rfl, hI3, ht3, hx3, hb3⟩; have hB3 := below_blk hb3 (Nat.le_refl _) hB2; have hH3 := below_blk hb3 (Nat.le_refl _) hH2; have p0 := cell_of_blk hB3 0; have p1 := cell_of_blk hB3 1; simp only [List.getElem?_toArray, List.getElem?_cons_zero, List.getElem?_cons_succ] at p0 p1; have b3 := b2.trans (hb3.mono b2.size); have hP3 := hp.fr (Fr.of_below (S := fun _ => False) b3) (G' := fun _ => True) (fun _ _ _ => ⟨id, trivial⟩)))
    | (go_at_call 21; go_loud (refine (CopyProgram A A' c c' p hP3 hc hf hfc).mono ?_; rintro e w4 ⟨A2, c2, A3, c3, rfl, hP4, hb4⟩)))
  have hs3 := hb3.size
  have hs4 := hb4.size
  rw [hz2] at hs3
  have h5 : ∀ k, k ≠ w4.heap.size → (fun k => if k = w4.heap.size then 6 else own3 k) k = own3 k := fun k hk => if_neg hk
  have hx : ∀ k, k < w.heap.size + 1 + 1 → own3 k = if k = w.heap.size + 1 then 1 else 0 := fun k hk => hx3 k (by rw [hz2]; exact hk)
  have f5 : Fr (fun _ => False) w3 (w4.alloc (.cells #[.slice A2 p.consts.length c2, .slice A3 p.funcs.length c3, .pointer (some ⟨w.heap.size + 1, 0, none⟩), .pointer (some ⟨ib, 0, none⟩)] 37)) := (Fr.of_below hb4).alloc _
  go_ret
  refine ⟨w4.heap.size, fun k => if k = w4.heap.size then 6 else own3 k, A2, c2, A3, c3, rfl, ⟨if_pos rfl, fun k hk => ?_, w.heap.size + 1, ib, blk_new _ _, ⟨?_, _, [], f5.same hH3 id, Row.nil _ _ _ _ _, fun i x h => by simp at h⟩, hI3.frame f5 (fun k hk _ => ⟨id, h5 k (by omega)⟩)⟩, fun k hk => ?_, hP4.fr ((Fr.refl (fun _ => False) _).alloc _) (fun k hk hl => ⟨id, (h5 k (by omega)).trans (ht3 k hk)⟩), (b3.trans (hb4.mono b3.size)).alloc (by omega) _⟩
  · simp only [World.size_alloc] at hk
    exact (h5 k (by omega)).trans (ht3 k (by omega))
  · exact ((h5 _ (by omega)).trans (hx _ (by omega))).trans (if_pos rfl)
  · exact ((h5 k (by omega)).trans (hx k (by omega))).trans (if_neg (by omega))
end Go.Proofs.YtcbokgnogcmheaaGreatDoor
