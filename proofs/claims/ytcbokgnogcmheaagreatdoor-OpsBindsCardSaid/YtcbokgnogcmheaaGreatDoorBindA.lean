/-
  APPEND ONTO A SLICE THAT IS FULL, whatever it is and whatever is appended: the sum lies somewhere; what stood stands.
-/
import Derived.Test.YtcbokgnogcmheaaGreatDoorWorks
import Derived.Deep.AppendSrc
import Derived.Deep.Upon
namespace Go.Proofs.YtcbokgnogcmheaaGreatDoor
open Go.RowKit

section
variable {P : Program} {w : World}
theorem src_go {size m c : Nat} {t e : TypeId} {A : Option Addr} {news : List Value} (ht : P.underlying t = some (.slice e)) (h : Src w size A m news) (hsz : 0 < size) (h1 : ∀ u ∈ news, u.oneCell' = true) : _root_.Go.Src P size t (.slice A m c) m news w := by
  cases A with
  | none =>
    have hn : news = [] := by
      cases news with
      | nil => rfl
      | cons x r => obtain ⟨ad, h, _⟩ := h.2 0 x rfl; cases h
    subst hn
    have hm : m = 0 := by
      have := h.1
      simp only [List.length_nil] at this
      rcases Nat.eq_zero_or_pos m with e | e
      · exact e
      · have := Nat.mul_pos e hsz; omega
    subst hm
    exact _root_.Go.Src.ofNil w ht c
  | some ad =>
    refine _root_.Go.Src.ofSlice w ht ad m c news h.1 (fun j u hu => ?_) h1
    obtain ⟨ad', h, hc⟩ := h.2 j u hu
    injection h with h
    subst h
    exact hc
theorem rd_src {G : Nat → Prop} {size n : Nat} {A : Option Addr} {xs : List Value} (h : Rd G w size A n xs) : Src w size A n xs := by
  refine ⟨h.1, fun j u hu => ?_⟩
  rcases h.2 with h0 | ⟨g, o, hA, _, _, hr⟩
  · have := h.1
    rw [h0, Nat.zero_mul] at this
    rw [List.eq_nil_of_length_eq_zero this] at hu
    cases hu
  · exact ⟨_, hA, by rw [add_blk]; exact hr j u hu⟩
theorem run_append_full (t ty e : TypeId) (i : TypeInfo) (z : Value) (size bytes : Nat) (ht : P.underlying t = some (.slice e)) (hi : P.info? e = some i) (hz : i.zero = some z)
    (hsize : i.size = size) (hby : i.bytes = bytes) (hzs : z.cells.size = size) (hsz : 0 < size)
    (G : Nat → Prop) (D : Option Addr) (n : Nat) (olds : List Value) (hD : Rd G w size D n olds) (ho : ∀ u ∈ olds, u.oneCell' = true)
    (A : Option Addr) (m c : Nat) (news : List Value) (hr : Src w size A m news) (h1 : ∀ u ∈ news, u.oneCell' = true) (h63 : n + m ≤ maxLen) (hbytes : (n + m) * bytes ≤ 140737488355328) :
    ∃ A' c' w', (Builtin.append_ #[t, t] ty #[.slice D n n, .slice A m c]).run P w = .ok (.slice A' (n + m) c') w' ∧ Rd (fun k => G k ∨ w.heap.size ≤ k) w' size A' (n + m) (olds ++ news) ∧ n + m ≤ c' ∧ Below w.heap.size w w' := by
  subst hsize
  subst hby
  have hs := src_go (c := c) ht hr hsz h1
  have hold := src_go (c := n) ht (rd_src hD) hsz ho
  rcases Nat.eq_zero_or_pos m with hm | hm
  · subst hm
    have hn : news = [] := List.eq_nil_of_length_eq_zero (by rw [hr.1]; simp)
    subst hn
    exact ⟨D, n, w, run_append_nothing w t t ty e i ht hi D n n (Nat.le_refl _) _ hs, by simpa using hD.mono (fun k hk _ => .inl hk), by omega, Below.refl _ _⟩
  · have hrun := run_append_grow_src w t t ty e i z ht hi hz D n n olds hold.cellsD (.slice A m c) m news hs (by omega) (by unfold maxLen at h63; omega) (growslice_fits (by omega) hbytes)
    refine ⟨_, _, _, hrun, ⟨by rw [List.length_append, hD.1, hr.1, Nat.add_mul], .inr ⟨w.heap.size, 0, rfl, .inr (Nat.le_refl _), by simp, fun j u hu => ?_⟩⟩, grownCap_ge w (n + m) n e, ?_⟩
    · rw [Nat.zero_add, cell_of_blk (g := w.heap.size) (blk_new w.drew _)]
      have hj := (List.getElem?_eq_some_iff.1 hu).1
      rw [Array.getElem?_append_left (by simpa using hj)]
      simpa using hu
    · exact (Below.refl _ _).drew.alloc (by simp) _
theorem wpList_append_full {ops : Array Oper} {rest : List Oper} {o : Oper} {a : Act} {Q : Exit → Act → World → Prop} (hgd : o.guard = none) (s x : Operand) (t : TypeId)
    (hop : o.op = .call { callee := .builtin .append, args := #[s, x], argTypes := #[t, t] })
    (e : TypeId) (i : TypeInfo) (z : Value) (size bytes : Nat) (ht : P.underlying t = some (.slice e)) (hi : P.info? e = some i) (hz : i.zero = some z)
    (hsize : i.size = size) (hby : i.bytes = bytes) (hzs : z.cells.size = size) (hsz : 0 < size)
    (G : Nat → Prop) (D : Option Addr) (n : Nat) (olds : List Value) (hs : a.eval s = .slice D n n) (hD : Rd G w size D n olds) (ho : ∀ u ∈ olds, u.oneCell' = true)
    (A : Option Addr) (m c : Nat) (news : List Value) (hx : a.eval x = .slice A m c) (hr : Src w size A m news) (h1 : ∀ u ∈ news, u.oneCell' = true) (h63 : n + m ≤ maxLen) (hbytes : (n + m) * bytes ≤ 140737488355328)
    (h : ∀ A' c' w', Rd (fun k => G k ∨ w.heap.size ≤ k) w' size A' (n + m) (olds ++ news) → n + m ≤ c' → Below w.heap.size w w' → wpList P ops Q rest (a.put o.dst (.slice A' (n + m) c')) w') : wpList P ops Q (o :: rest) a w := by
  obtain ⟨A', c', w', hrun, h2, h3, h4⟩ := run_append_full t o.type e i z size bytes ht hi hz hsize hby hzs hsz G D n olds hD ho A m c news hr h1 h63 hbytes
  refine wpList_plain hgd fun _ hK => ?_
  unfold Oper.wp execOp
  simp only [hop, resolve, invoke, builtin, Sem.run_bind, Sem.run_pure, Result.andThen_ok, List.map_toArray, List.map_cons, List.map_nil, hs, hx, hrun]
  exact hK _ _ (h A' c' w' h2 h3 h4)
end
end Go.Proofs.YtcbokgnogcmheaaGreatDoor
