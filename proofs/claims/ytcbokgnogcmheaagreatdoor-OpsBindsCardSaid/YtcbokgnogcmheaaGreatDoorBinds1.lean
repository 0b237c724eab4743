/-
  OPSBINDS, ITS STEPS: the world with one function of so many parameters; what each of the three calls of 'bound' comes to.
-/
import Derived.Test.YtcbokgnogcmheaaGreatDoorSame2
namespace Go.Proofs.YtcbokgnogcmheaaGreatDoor
open Go.RowKit
set_option linter.unusedVariables false
set_option linter.unusedSimpArgs false

/-- The law's program. -/
def fPrg (n : Int) : PrgD := ⟨[], [⟨⟨#[102]⟩, n, n, [], []⟩]⟩
def fW (w : World) (n : Int) : World := (w.alloc (.cells #[.string ⟨#[102]⟩, .int .i64 n, .int .i64 n, .slice none 0 0, .slice none 0 0] 52)).alloc (.cells #[.string ⟨#[102]⟩, .int .i64 n, .int .i64 n, .slice none 0 0, .slice none 0 0] 52)
theorem fW_prg (w : World) (n : Int) : PrgAt (fun _ => True) (fW w n) none (some ⟨w.heap.size + 1, 0, none⟩) (fPrg n) := by
  have h1 : (fW w n).heap[w.heap.size + 1]? = _ := heap_alloc2_new w _ _
  refine ⟨Rd.nil _ _ _ _, [[.string ⟨#[102]⟩, .int .i64 n, .int .i64 n, .slice none 0 0, .slice none 0 0]], rd_block h1 trivial rfl, rfl, by simp, fun i f hi => ?_⟩
  cases i with
  | zero =>
    simp only [fPrg, List.getElem?_cons_zero, Option.some.injEq] at hi
    subst hi
    exact ⟨_, rfl, none, 0, none, 0, rfl, Rd.nil _ _ _ _, Rd.nil _ _ _ _⟩
  | succ i => simp [fPrg] at hi
theorem fW_below (w : World) (n : Int) : Below w.heap.size w (fW w n) := below_alloc2 w _ _
theorem prg_fn {G : Nat → Prop} {w : World} {A A' : Option Addr} {n : Int} (h : PrgAt G w A A' (fPrg n)) : ∃ g o, A' = some ⟨g, o, none⟩ ∧ G g ∧ g < w.heap.size ∧ w.cell? ⟨g, o + 1, none⟩ = some (.int .i64 n) := by
  obtain ⟨_, fcs, hr, h1, h2, hf⟩ := h
  obtain ⟨g, o, hA, hG, hg, hc⟩ := hr.2.resolve_left (by simp [fPrg])
  obtain ⟨x, hx, A1, c1, A2, c2, hx2, _⟩ := hf 0 _ rfl
  refine ⟨g, o, hA, hG, hg, hc 1 _ ?_⟩
  have h5 : fcs = [x] := by
    cases fcs with
    | nil => simp at hx
    | cons y ys =>
      have : ys = [] := List.eq_nil_of_length_eq_zero (by simpa [fPrg] using h1)
      subst this
      simpa using hx
  subst h5
  rw [hx2]
  rfl

/-- What a call of 'bound' comes to, in whatever world of that form. -/
def BStep (wb : Nat) (cs : Value) (g o cf : Nat) (n : Int) (f : VV) (vals : List VV) (sp : Int) (ts : List Thing) (v : VV) (t sp' : Int) (ts' : List Thing) : Prop :=
  ∀ own W A m c, WAt own W wb cs (.slice (some ⟨g, o, none⟩) 1 cf) [] 1048576 sp ts → W.cell? ⟨g, o + 1, none⟩ = some (.int .i64 n) → m = vals.length → Src W 2 A m (vvs vals) →
    Calls Tryz.prog 12 #[.pointer (some ⟨wb, 0, none⟩), .agg #[.int .i64 f.1, .int .i64 f.2], .slice A m c] W (Out own W wb cs (.slice (some ⟨g, o, none⟩) 1 cf) 1048576 v t [] sp' ts')
section
variable {wb g o cf : Nat} {cs : Value} {n sp : Int} {vals : List VV} {ts : List Thing}
theorem bstep_nil (hv : vals.length < 64) : BStep wb cs g o cf n (0, 0) vals sp ts (0, 0) 1 sp ts := by
  intro own W A m c h hP hm hs
  exact law_bound h.tidy hm hs (by omega) fun W2 hW2 ab o2 n2 c2 hn hc hA => Apply_bind_none (h.below hW2) hn hc hA hv
theorem bstep {f : VV} {l : List VV} (hf : (f.1 = 5 ∧ f.2 = ((0 : Nat) : Int) ∧ l = []) ∨ ∃ idx : Nat, f.1 = 8 ∧ f.2 = idx ∧ ts[idx]? = some (.bnd ((0 : Nat) : Int) l)) (hv : vals.length < 64) (hl : l.length ≤ 64) (hsp : 0 ≤ sp) (hsp2 : sp ≤ 1000) (hlen : ts.length ≤ 10) :
    (((l.length : Int) + vals.length) ≤ n → BStep wb cs g o cf n f vals sp ts (8, ts.length) 0 (sp + (2 + ((l.length : Int) + vals.length))) (ts ++ [.bnd ((0 : Nat) : Int) (l ++ vals)])) ∧
    (n < ((l.length : Int) + vals.length) → BStep wb cs g o cf n f vals sp ts (0, 0) 5 sp ts) := by
  constructor
  · intro hle own W A m c h hP hm hs
    refine law_bound h.tidy hm hs (by omega) fun W2 hW2 ab o2 n2 c2 hn hc hA => ?_
    have := Apply_bind (fn := 0) (l := l) (params := n) (h.below hW2) hsp (by omega) (by decide) (by decide) (by omega) hf (by decide) (by decide) (by simpa using below_cell hW2 hP (World.block_lt_of_cell? W _ hP)) hn hc hA hv (by omega) (by omega)
    refine this.mono fun e w' hq => ?_
    unfold BindOut at hq
    rw [if_pos hle] at hq
    exact hq
  · intro hlt own W A m c h hP hm hs
    refine law_bound h.tidy hm hs (by omega) fun W2 hW2 ab o2 n2 c2 hn hc hA => ?_
    have := Apply_bind (fn := 0) (l := l) (params := n) (h.below hW2) hsp (by omega) (by decide) (by decide) (by omega) hf (by decide) (by decide) (by simpa using below_cell hW2 hP (World.block_lt_of_cell? W _ hP)) hn hc hA hv (by omega) (by omega)
    refine this.mono fun e w' hq => ?_
    unfold BindOut at hq
    rw [if_neg (by omega)] at hq
    exact hq
end
/-- The three calls of the law, whatever the number of parameters. -/
theorem three (wb : Nat) (cs : Value) (g o cf : Nat) (n : Int) (a b : List VV) (ha : a.length ≤ 60) (hb : b.length ≤ 60) (hab : a.length + b.length ≤ 63) :
    ∃ (v1 : VV) (t1 sp1 : Int) (ts1 : List Thing) (v2 : VV) (t2 sp2 : Int) (ts2 : List Thing) (v3 : VV) (t3 sp3 : Int) (ts3 : List Thing),
      BStep wb cs g o cf n (5, 0) a 0 [] v1 t1 sp1 ts1 ∧ BStep wb cs g o cf n v1 b sp1 ts1 v2 t2 sp2 ts2 ∧ BStep wb cs g o cf n (5, 0) (a ++ b) sp2 ts2 v3 t3 sp3 ts3 ∧
        ((n < a.length ∧ t1 = 5 ∧ t3 = 5 ∧ ts3.length = 0) ∨ (a.length ≤ n ∧ n < (a.length : Int) + b.length ∧ t1 = 0 ∧ t2 = 5 ∧ t3 = 5 ∧ ts3.length = 1) ∨
          ((a.length : Int) + b.length ≤ n ∧ a.length ≤ n ∧ t1 = 0 ∧ t2 = 0 ∧ t3 = 0 ∧ v2 = (8, ((1 : Nat) : Int)) ∧ v3 = (8, ((2 : Nat) : Int)) ∧ ts3[1]? = some (.bnd ((0 : Nat) : Int) (a ++ b)) ∧ ts3[2]? = some (.bnd ((0 : Nat) : Int) (a ++ b)))) := by
  have h1 := bstep (wb := wb) (g := g) (o := o) (cf := cf) (cs := cs) (n := n) (sp := 0) (vals := a) (ts := []) (f := (5, 0)) (l := []) (.inl ⟨rfl, rfl, rfl⟩) (by omega) (by decide) (by decide) (by decide) (by decide)
  have hall : (a ++ b).length = a.length + b.length := by simp
  rcases Int.lt_or_le n a.length with hc | hc
  · have h3 := bstep (wb := wb) (g := g) (o := o) (cf := cf) (cs := cs) (n := n) (sp := 0) (vals := a ++ b) (ts := []) (f := (5, 0)) (l := []) (.inl ⟨rfl, rfl, rfl⟩) (by omega) (by decide) (by decide) (by decide) (by decide)
    exact ⟨_, _, _, _, _, _, _, _, _, _, _, _, h1.2 (by simpa using hc), bstep_nil (by omega), h3.2 (by rw [hall]; simp; omega), .inl ⟨hc, rfl, rfl, rfl⟩⟩
  · have g1 := h1.1 (by simpa using hc)
    have h2 := bstep (wb := wb) (g := g) (o := o) (cf := cf) (cs := cs) (n := n) (sp := 0 + (2 + (([] : List VV).length + (a.length : Int)))) (vals := b) (ts := [.bnd ((0 : Nat) : Int) ([] ++ a)]) (f := (8, (([] : List Thing).length : Int))) (l := a) (.inr ⟨0, rfl, rfl, rfl⟩) (by omega) (by omega) (by simp; omega) (by simp; omega) (by simp)
    rcases Int.lt_or_le n ((a.length : Int) + b.length) with hd | hd
    · have h3 := bstep (wb := wb) (g := g) (o := o) (cf := cf) (cs := cs) (n := n) (sp := 0 + (2 + (([] : List VV).length + (a.length : Int)))) (vals := a ++ b) (ts := [.bnd ((0 : Nat) : Int) ([] ++ a)]) (f := (5, 0)) (l := []) (.inl ⟨rfl, rfl, rfl⟩) (by omega) (by decide) (by simp; omega) (by simp; omega) (by simp)
      exact ⟨_, _, _, _, _, _, _, _, _, _, _, _, g1, h2.2 hd, h3.2 (by rw [hall]; simp; omega), .inr (.inl ⟨hc, hd, rfl, rfl, rfl, rfl⟩)⟩
    · have g2 := h2.1 hd
      have h3 := bstep (wb := wb) (g := g) (o := o) (cf := cf) (cs := cs) (n := n) (sp := 0 + (2 + (([] : List VV).length + (a.length : Int))) + (2 + ((a.length : Int) + b.length))) (vals := a ++ b) (ts := [.bnd ((0 : Nat) : Int) ([] ++ a)] ++ [.bnd ((0 : Nat) : Int) (a ++ b)]) (f := (5, 0)) (l := []) (.inl ⟨rfl, rfl, rfl⟩) (by omega) (by decide) (by simp; omega) (by simp; omega) (by simp)
      exact ⟨_, _, _, _, _, _, _, _, _, _, _, _, g1, g2, h3.1 (by rw [hall]; simp; omega), .inr (.inr ⟨hd, hc, rfl, rfl, rfl, rfl, rfl, rfl, rfl⟩)⟩
end Go.Proofs.YtcbokgnogcmheaaGreatDoor
