/-
  APPEND ONTO A ROW THAT BELONGS TO A PART OF A STATE: whatever the source is (nil, empty or not), the row then holds both lists; the new block, where there is one, belongs to the same part.
-/
import Derived.Test.YtcbokgnogcmheaaGreatDoorMaps
namespace Go.Proofs.YtcbokgnogcmheaaGreatDoor
open Go.RowKit

/-- No block that is yet to come belongs to any part. -/
def Tidy (own : Nat → Nat) (w : World) : Prop := ∀ k, w.heap.size ≤ k → own k = 0
/-- What stood belongs where it did. -/
def Ext (own own' : Nat → Nat) (w : World) : Prop := ∀ k, k < w.heap.size → own' k = own k
theorem Ext.refl (own : Nat → Nat) (w : World) : Ext own own w := fun _ _ => rfl
theorem Ext.trans {a b c : Nat → Nat} {w w' : World} (h : Ext a b w) (k : Ext b c w') (hs : w.heap.size ≤ w'.heap.size) : Ext a c w := fun i hi => (k i (Nat.lt_of_lt_of_le hi hs)).trans (h i hi)
theorem Ext.mono {a b : Nat → Nat} {w w' : World} (h : Ext a b w') (hs : w.heap.size ≤ w'.heap.size) : Ext a b w := fun i hi => h i (Nat.lt_of_lt_of_le hi hs)
theorem Tidy.frame {own : Nat → Nat} {w w' : World} (h : Tidy own w) (hs : w.heap.size ≤ w'.heap.size) : Tidy own w' := fun k hk => h k (Nat.le_trans hs hk)

/-- What an append takes in: m elements that read as these cells. -/
def Src (w : World) (size : Nat) (A : Option Addr) (m : Nat) (news : List Value) : Prop := news.length = m * size ∧ ∀ j u, news[j]? = some u → ∃ ad, A = some ad ∧ w.cell? (ad.add j) = some u
theorem add_blk (g o n : Nat) : (⟨g, o, none⟩ : Addr).add n = ⟨g, o + n, none⟩ := by
  unfold Addr.add
  split
  · rename_i h; subst h; rfl
  · rfl
theorem Src.nil (w : World) (size : Nat) : Src w size Option.none 0 [] := ⟨by simp, fun j u h => by simp at h⟩
theorem Src.one {w : World} {x : Value} {t : TypeId} : Src (w.alloc (.cells #[x] t)) 1 (some ⟨w.heap.size, 0, none⟩) 1 [x] := ⟨rfl, fun j u h => ⟨_, rfl, cell_one_new w x t j u h⟩⟩
theorem Src.block {w : World} {g m size : Nat} {cs : Array Value} {t : TypeId} {fz : Nat × Nat} (hb : w.heap[g]? = some (.cells cs t fz)) (hs : cs.size = m * size) : Src w size (some ⟨g, 0, none⟩) m cs.toList :=
  ⟨by simpa using hs, fun j u h => ⟨_, rfl, by rw [add_blk, Nat.zero_add, cell_of_blk hb]; simpa using h⟩⟩
theorem Src.row {own : Nat → Nat} {t n size : Nat} {w : World} {e : TypeId} {xs : List Value} {A : Option Addr} {c : Nat} (h : Row own t w e size (.slice A n c) n xs) : Src w size A n xs := by
  refine ⟨h.len, fun j u hu => ?_⟩
  have hj : j < n * size := by have := (List.getElem?_eq_some_iff.1 hu).1; rw [h.len] at this; exact this
  have hn : 0 < n := by rcases Nat.eq_zero_or_pos n with e | e; · subst e; omega
                        · exact e
  obtain ⟨g, c', cur, hv, _, _, _, hb, _, hcur⟩ := h.form hn
  injection hv with hA
  refine ⟨_, hA, ?_⟩
  rw [add_blk, Nat.zero_add, cell_of_blk hb, hcur j hj, hu]
theorem Src.frame {S : Nat → Prop} {w w' : World} {size m : Nat} {A : Option Addr} {news : List Value} (h : Src w size A m news) (hf : Fr S w w') (hS : ∀ ad, A = some ad → ¬ S ad.block) : Src w' size A m news := by
  refine ⟨h.1, fun j u hu => ?_⟩
  obtain ⟨ad, hA, hc⟩ := h.2 j u hu
  exact ⟨ad, hA, hf.cell hc (by
    have : (ad.add j).block = ad.block := by unfold Addr.add; split <;> rfl
    rw [this]; exact hS ad hA)⟩

section
variable {P : Program} {w : World}
theorem run_append_Row (own : Nat → Nat) (pt : Nat) (t ty e : TypeId) (i : TypeInfo) (z : Value) (size bytes : Nat) (ht : P.underlying t = some (.slice e)) (hi : P.info? e = some i) (hz : i.zero = some z)
    (hsize : i.size = size) (hby : i.bytes = bytes) (hzs : z.cells.size = size) (hsz : 0 < size)
    (v : Value) (n : Nat) (xs : List Value) (hrow : Row own pt w e size v n xs)
    (A : Option Addr) (m c : Nat) (news : List Value) (hr : Src w size A m news) (h1 : ∀ u ∈ news, u.oneCell' = true) (h63 : n + m ≤ maxLen) (hbytes : (n + m) * bytes ≤ 140737488355328) :
    ∃ v' w' own', (Builtin.append_ #[t, t] ty #[v, .slice A m c]).run P w = .ok v' w' ∧ Row own' pt w' e size v' (n + m) (xs ++ news) ∧ Fr (fun k => v.ownBlock = some k) w w' ∧ Tidy own' w' ∧ Ext own own' w := by
  have key : ∃ v' w', (Builtin.append_ #[t, t] ty #[v, .slice A m c]).run P w = .ok v' w' ∧ w'.ownsRow 0 e size v' (n + m) (xs ++ news) ∧ w.grownBy w' v.ownBlock ∧ (v'.ownBlock = v.ownBlock ∨ v'.ownBlock = some w.heap.size) := by
    rcases A with _ | ad
    · have hn : news = [] := by
        rcases news with _ | ⟨x, r⟩
        · rfl
        · obtain ⟨ad, h, _⟩ := hr.2 0 x rfl
          cases h
      subst hn
      have hm : m = 0 := by
        have := hr.1
        simp only [List.length_nil] at this
        rcases Nat.eq_zero_or_pos m with e | e
        · exact e
        · have := Nat.mul_pos e hsz; omega
      subst hm
      refine ⟨v, w, ?_, by simpa using hrow.1, World.grownBy.refl w _, .inl rfl⟩
      rcases hrow.1.2 with ⟨rfl, rfl⟩ | ⟨g, cap, cur, rfl, _, _, hnc, _⟩
      · simp [Builtin.append_, run_underlying ht, sizeOf, typeInfo, hi, Builtin.lenOf, Builtin.firstCells]
      · simp [Builtin.append_, run_underlying ht, sizeOf, typeInfo, hi, Builtin.lenOf, Builtin.firstCells, hnc, storeCells]
    · have hcells : ∀ j u, news[j]? = some u → w.cell? (ad.add j) = some u := by
        intro j u hu
        obtain ⟨ad', h, hc⟩ := hr.2 j u hu
        injection h with h
        subst h
        exact hc
      obtain ⟨v', w', hrun, h2, h3, _, h5⟩ := run_append_own_at (P := P) w 0 t ty e i z size bytes ht hi hz hsize hby hzs hsz v n xs hrow.1 ad m c news hr.1 hcells h1 h63 hbytes (Nat.zero_le _)
      exact ⟨v', w', hrun, h2, h3, h5⟩
  obtain ⟨v', w', hrun, hown, hg, hat⟩ := key
  refine ⟨v', w', fun k => if k < w.heap.size then own k else if some k = v'.ownBlock then pt else 0, hrun, ⟨hown, fun k hk => ?_⟩, Fr.of_grown hg (fun k hk _ => hk), fun k hk => ?_, fun k hk => by simp [hk]⟩
  · dsimp only
    by_cases hlt : k < w.heap.size
    · rw [if_pos hlt]
      rcases hat with e1 | e1
      · exact hrow.2 k (by rw [← e1]; exact hk)
      · rw [e1] at hk; injection hk with hk; omega
    · rw [if_neg hlt, if_pos hk.symm]
  · have h2 := hg.size
    dsimp only
    rw [if_neg (by omega)]
    by_cases hk' : some k = v'.ownBlock
    · have := (hown.lt k hk'.symm).2; omega
    · rw [if_neg hk']

theorem wpList_append_Row {ops : Array Oper} {rest : List Oper} {o : Oper} {a : Act} {Q : Exit → Act → World → Prop} (hgd : o.guard = none) (s x : Operand) (t : TypeId)
    (ho : o.op = .call { callee := .builtin .append, args := #[s, x], argTypes := #[t, t] })
    (own : Nat → Nat) (pt : Nat) (e : TypeId) (i : TypeInfo) (z : Value) (size bytes : Nat) (ht : P.underlying t = some (.slice e)) (hi : P.info? e = some i) (hz : i.zero = some z)
    (hsize : i.size = size) (hby : i.bytes = bytes) (hzs : z.cells.size = size) (hsz : 0 < size)
    (v : Value) (n : Nat) (xs : List Value) (hs : a.eval s = v) (hrow : Row own pt w e size v n xs)
    (A : Option Addr) (m c : Nat) (news : List Value) (hx : a.eval x = .slice A m c) (hr : Src w size A m news) (h1 : ∀ u ∈ news, u.oneCell' = true) (h63 : n + m ≤ maxLen) (hbytes : (n + m) * bytes ≤ 140737488355328)
    (h : ∀ v' w' own', Row own' pt w' e size v' (n + m) (xs ++ news) → Fr (fun k => v.ownBlock = some k) w w' → Tidy own' w' → Ext own own' w → wpList P ops Q rest (a.put o.dst v') w') : wpList P ops Q (o :: rest) a w := by
  obtain ⟨v', w', own', hrun, h2, h3, h4, h5⟩ := run_append_Row own pt t o.type e i z size bytes ht hi hz hsize hby hzs hsz v n xs hrow A m c news hr h1 h63 hbytes
  refine wpList_plain hgd fun _ hK => ?_
  unfold Oper.wp execOp
  simp only [ho, resolve, invoke, builtin, Sem.run_bind, Sem.run_pure, Result.andThen_ok, List.map_toArray, List.map_cons, List.map_nil, hs, hx, hrun]
  exact hK _ _ (h v' w' own' h2 h3 h4 h5)

/-- The same as one step of a region that draws. -/
theorem step_append_Row {ops : Array Oper} {o : Oper} {a : Act} {K : Act → World → Prop} {Q : Exit → Act → World → Prop} {E : Prop} (hgd : o.guard = none) (s x : Operand) (t : TypeId)
    (ho : o.op = .call { callee := .builtin .append, args := #[s, x], argTypes := #[t, t] })
    (own : Nat → Nat) (pt : Nat) (e : TypeId) (i : TypeInfo) (z : Value) (size bytes : Nat) (ht : P.underlying t = some (.slice e)) (hi : P.info? e = some i) (hz : i.zero = some z)
    (hsize : i.size = size) (hby : i.bytes = bytes) (hzs : z.cells.size = size) (hsz : 0 < size)
    (v : Value) (n : Nat) (xs : List Value) (hs : a.eval s = v) (hrow : Row own pt w e size v n xs)
    (A : Option Addr) (m c : Nat) (news : List Value) (hx : a.eval x = .slice A m c) (hr : Src w size A m news) (h1 : ∀ u ∈ news, u.oneCell' = true) (h63 : n + m ≤ maxLen) (hbytes : (n + m) * bytes ≤ 140737488355328)
    (h : ∀ v' w' own', Row own' pt w' e size v' (n + m) (xs ++ news) → Fr (fun k => v.ownBlock = some k) w w' → Tidy own' w' → Ext own own' w → K (a.put o.dst v') w') :
    if Region.wanted o (yielded ops a.tmps) = true then Oper.wp P o a w K Q else E := by
  obtain ⟨v', w', own', hrun, h2, h3, h4, h5⟩ := run_append_Row own pt t o.type e i z size bytes ht hi hz hsize hby hzs hsz v n xs hrow A m c news hr h1 h63 hbytes
  have hw : Region.wanted o (yielded ops a.tmps) = true := by simp [Region.wanted, hgd]
  rw [if_pos hw]
  unfold Oper.wp execOp
  simp only [ho, resolve, invoke, builtin, Sem.run_bind, Sem.run_pure, Result.andThen_ok, List.map_toArray, List.map_cons, List.map_nil, hs, hx, hrun]
  exact h v' w' own' h2 h3 h4 h5
end
end Go.Proofs.YtcbokgnogcmheaaGreatDoor
