/-
  VALUES COMPARED (portageref0): SameValues; SameLongs of none; SameObject of bound functions.
-/
import Derived.Test.YtcbokgnogcmheaaGreatDoorSame
namespace Go.Proofs.YtcbokgnogcmheaaGreatDoor
open Go.RowKit
set_option linter.unusedVariables false
set_option linter.unusedSimpArgs false

theorem ret_bool {a b : Bool} (h : a = b) : Ending.returned (.bool b) = .returned (.bool a) := by rw [h]
theorem take_more {l k : List VV} {i : Nat} (h : l.take i = k.take i) (hi : i < l.length) (hk : i < k.length) (he : l[i] = k[i]) : l.take (i + 1) = k.take (i + 1) := by
  rw [List.take_add_one, List.take_add_one, h, List.getElem?_eq_getElem hi, List.getElem?_eq_getElem hk, he]
set_option maxRecDepth 8000 in
theorem SameValues {w : World} (A B : Option Addr) (ca cb : Nat) (l k : List VV) (hl : Rd (fun _ => True) w 2 A l.length (vvs l)) (hk : Rd (fun _ => True) w 2 B k.length (vvs k)) (hlen : l.length ≤ 1099511627776) (hlen2 : k.length ≤ 1099511627776) :
    Calls Tryz.prog 17 #[.slice A l.length ca, .slice B k.length cb] w fun e w' => e = .returned (.bool (decide (l = k))) ∧ ∃ n, w' = w.drewN n := by
  by_cases hn : l.length = k.length
  · have hn1 : ((l.length : Int) == k.length) = true := by rw [hn]; simp
    have hn2 : ((l.length : Int) != k.length) = false := by rw [hn]; simp
    have HN := aside hn
    clear hn
    go_enter Tryz.func17, Tryz.ntmps17
    go_wp2
    go_loopg [5] l.length (fun q vi wr => ∃ i : Nat, vi = .int .i64 i ∧ i + q = l.length ∧ l.take i = k.take i ∧ ∃ n, wr = w.drewN n)
    case atStart => exact ⟨0, rfl, by omega, by simp, 0, rfl⟩
    case round =>
      obtain ⟨i, rfl, hik0, ht, n, rfl⟩ := hrel
      have hil : i ≤ l.length := by omega
      have hik : Aside (i + gk = l.length) := hik0
      have HT := aside ht
      clear hik0 ht
      by_cases hlt : i < l.length
      · have hlt2 : i < k.length := by have := HN.out; omega
        obtain ⟨g, o, rfl, _, hg, hr⟩ := hl.2.resolve_left (by omega)
        obtain ⟨g', o', rfl, _, hg', hr'⟩ := hk.2.resolve_left (by omega)
        have c0 : w.cell? ⟨g, o + i * 2, none⟩ = some (.int .i64 l[i].1) := hr _ _ (vvs_at l i hlt).1
        have c1 : w.cell? ⟨g, o + i * 2 + 1, none⟩ = some (.int .i64 l[i].2) := hr _ _ (vvs_at l i hlt).2
        have c2 : w.cell? ⟨g', o' + i * 2, none⟩ = some (.int .i64 k[i].1) := hr' _ _ (vvs_at k i hlt2).1
        have c3 : w.cell? ⟨g', o' + i * 2 + 1, none⟩ = some (.int .i64 k[i].2) := hr' _ _ (vvs_at k i hlt2).2
        have b0 : (0 : Int) ≤ i := by omega
        have b1 : (i : Int) < l.length := by omega
        have b2 : (i : Int) < k.length := by omega
        have vn := fun W => value_neq W l[i].1 l[i].2 k[i].1 k[i].2
        by_cases he : l[i] = k[i]
        · have hb : (l[i].1 == k[i].1 && l[i].2 == k[i].2) = true := by rw [he]; simp
          rw [hb] at vn
          have HE := aside he
          clear he hb hr hr' hl hk
          go_wp2
          go_quiet (fail)
          go_wp2
          go_roundg (gk - 1)
          case measure => have := hik.out; omega
          case rel => exact ⟨i + 1, by go_num, by have := hik.out; omega, take_more HT.out hlt hlt2 HE.out, n + nq, rfl⟩
        · have hb : (l[i].1 == k[i].1 && l[i].2 == k[i].2) = false := by
            rw [← Bool.not_eq_true]
            intro h
            simp only [Bool.and_eq_true, beq_iff_eq] at h
            exact he (Prod.ext h.1 h.2)
          rw [hb] at vn
          have hne : l ≠ k := fun e => he (by subst e; rfl)
          have hd := aside (decide_eq_false hne)
          clear he hb hr hr' hl hk hne
          go_wp2
          go_quiet (fail)
          go_wp2
          go_ret
          exact ⟨ret_bool hd.out, n + nq, by simp [World.drewN, Nat.add_assoc]⟩
      · obtain rfl : i = l.length := by omega
        have he : Aside (l = k) := by
          have := HT.out
          rw [List.take_length, List.take_of_length_le (by have := HN.out; omega)] at this
          exact this
        clear hik HT
        go_wp2
        go_ret
        exact ⟨ret_bool (decide_eq_true he.out), n, rfl⟩
  · have hn1 : ((l.length : Int) == k.length) = false := by simpa using fun e => hn (by omega)
    have hn2 : ((l.length : Int) != k.length) = true := by simpa using fun e => hn (by omega)
    have hd := aside (decide_eq_false (p := l = k) (fun e => hn (by rw [e])))
    clear hn
    go_enter Tryz.func17, Tryz.ntmps17
    go_wp2
    go_ret
    exact ⟨ret_bool hd.out, 0, rfl⟩

theorem SameLongs_none {w : World} (A B : Option Addr) (ca cb : Nat) :
    Calls Tryz.prog 25 #[.slice A 0 ca, .slice B 0 cb] w fun e w' => e = .returned (.bool true) ∧ w = w' := by
  go_enter Tryz.func25, Tryz.ntmps25
  go_wp2
  refine wp_loop_once ?_
  go_wp2
  go_ret
  exact ⟨rfl, rfl⟩

theorem SameObject_bound {w : World} (A B : Option Addr) (ca cb : Nat) (l k : List VV) (hl : Rd (fun _ => True) w 2 A l.length (vvs l)) (hk : Rd (fun _ => True) w 2 B k.length (vvs k)) (hlen : l.length ≤ 1099511627776) (hlen2 : k.length ≤ 1099511627776) (fn : Int) :
    Calls Tryz.prog 16 #[boundAgg A l.length ca fn, boundAgg B k.length cb fn] w fun e w' => e = .returned (.bool (decide (l = k))) ∧ Below w.heap.size w w' := by
  unfold boundAgg
  have b2 := below_alloc2 w (.cells #[.int .i64 8, .slice A l.length ca, .slice none 0 0, .int .i64 fn, .int .i64 0, .bool false] 57) (.cells #[.int .i64 8, .slice B k.length cb, .slice none 0 0, .int .i64 fn, .int .i64 0, .bool false] 57)
  have HV := aside (SameValues A B ca cb l k (hl.below b2) (hk.below b2) hlen hlen2)
  clear hl hk
  cases hd : decide (l = k) with
  | true =>
    rw [hd] at HV
    clear hd
    go_enter Tryz.func16, Tryz.ntmps16
    go_wp2_with (first
      | (go_at_call 17; go_loud (refine HV.out.mono ?_; rintro e w3 ⟨rfl, n, rfl⟩))
      | (go_at_call 25; go_loud (refine (SameLongs_none _ _ _ _).mono ?_; rintro e w4 ⟨rfl, rfl⟩)))
    go_ret
    exact ⟨rfl, below_drewN b2 _⟩
  | false =>
    rw [hd] at HV
    clear hd
    go_enter Tryz.func16, Tryz.ntmps16
    go_wp2_with (first
      | (go_at_call 17; go_loud (refine HV.out.mono ?_; rintro e w3 ⟨rfl, n, rfl⟩))
      | (go_at_call 25; go_loud (refine (SameLongs_none _ _ _ _).mono ?_; rintro e w4 ⟨rfl, rfl⟩)))
    go_ret
    exact ⟨rfl, below_drewN b2 _⟩
end Go.Proofs.YtcbokgnogcmheaaGreatDoor
