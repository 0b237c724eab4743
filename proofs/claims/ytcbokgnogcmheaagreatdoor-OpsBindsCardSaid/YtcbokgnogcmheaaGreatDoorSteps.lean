/-
  WHOLE STEPS OF APPLY: cat, cut, len where they go through.
-/
import Derived.Test.YtcbokgnogcmheaaGreatDoorApply
import Derived.Test.YtcbokgnogcmheaaGreatDoorInside
namespace Go.Proofs.YtcbokgnogcmheaaGreatDoor
open Go.RowKit

section
variable {own : Nat → Nat} {w : World} {wb g o c : Nat} {cs fs : Value} {items : List ByteArray} {bud sp : Int} {ts : List Thing}
theorem Apply_cat (h : WAt own w wb cs fs items bud sp ts) (hsp : 0 ≤ sp) (hsp2 : sp ≤ 9223372036854775807) (hbud : 0 ≤ bud) (hb2 : bud ≤ 9223372036854775807) (hlen : items.length ≤ 4294967296)
    {a b : VV} (hA : ArgsAt w g o [a, b]) {sa sb : ByteArray} (ha : textOf items a = some sa) (hb : textOf items b = some sb) (hs : (sa.size : Int) + sb.size ≤ 4096) (hroom : 1 + (sa.size + sb.size : Int) ≤ bud - sp) :
    Calls Tryz.prog 9 #[.pointer (some ⟨wb, 0, none⟩), .agg #[.int .i64 38, .int .i64 0], .slice (some ⟨g, o, none⟩) 2 c] w fun e w' =>
      ∃ own', e = .returned (.tuple #[vg (4, (addT items (sa ++ sb)).idxOf (sa ++ sb)), .int .i64 0, .bool true]) ∧ WAt own' w' wb cs fs (addT items (sa ++ sb)) bud (sp + (1 + (sa ++ sb).size)) ts ∧ Stp own own' w w' :=
  Apply_yes h.tidy (by decide) (by decide) (by decide +kernel) (by decide) (by decide +kernel) fun W hW =>
    do_texts (h.below hW).tidy (.inl rfl) 0 fun W2 hW2 => texts_cat ((h.below hW).below hW2) hsp hsp2 hbud hb2 hlen ((hA.below hW).below hW2) (Nat.le_refl _) ha hb hs hroom
theorem Apply_cut (h : WAt own w wb cs fs items bud sp ts) (hsp : 0 ≤ sp) (hsp2 : sp ≤ 9223372036854775807) (hbud : 0 ≤ bud) (hb2 : bud ≤ 9223372036854775807) (hlen : items.length ≤ 4294967296)
    {a : VV} {lo hi : Nat} (hA : ArgsAt w g o [a, (2, lo), (2, hi)]) {s : ByteArray} (ha : textOf items a = some s) (hl : lo ≤ hi) (hh : hi ≤ s.size) (hs : s.size ≤ 140737488355328) (hroom : 1 + (hi - lo : Int) ≤ bud - sp) :
    Calls Tryz.prog 9 #[.pointer (some ⟨wb, 0, none⟩), .agg #[.int .i64 39, .int .i64 0], .slice (some ⟨g, o, none⟩) 3 c] w fun e w' =>
      ∃ own', e = .returned (.tuple #[vg (4, (addT items (s.extract lo hi)).idxOf (s.extract lo hi)), .int .i64 0, .bool true]) ∧ WAt own' w' wb cs fs (addT items (s.extract lo hi)) bud (sp + (1 + (hi - lo : Int))) ts ∧ Stp own own' w w' :=
  Apply_yes h.tidy (by decide) (by decide) (by decide +kernel) (by decide) (by decide +kernel) fun W hW =>
    do_texts (h.below hW).tidy (.inr rfl) 0 fun W2 hW2 => texts_cut ((h.below hW).below hW2) hsp hsp2 hbud hb2 hlen ((hA.below hW).below hW2) (Nat.le_refl _) ha hl hh hs hroom
theorem Apply_len (h : WAt own w wb cs fs items bud sp ts) {a : VV} (hA : ArgsAt w g o [a]) {s : ByteArray} (ha : textOf items a = some s) :
    Calls Tryz.prog 9 #[.pointer (some ⟨wb, 0, none⟩), .agg #[.int .i64 52, .int .i64 0], .slice (some ⟨g, o, none⟩) 1 c] w fun e w' =>
      ∃ own', e = .returned (.tuple #[vg (2, s.size), .int .i64 0, .bool true]) ∧ WAt own' w' wb cs fs items bud sp ts ∧ Stp own own' w w' :=
  Apply_yes h.tidy (by decide) (by decide) (by decide +kernel) (by decide) (by decide +kernel) fun W hW =>
    do_inside (h.below hW).tidy rfl 0 fun W2 hW2 => inside_len ((h.below hW).below hW2) ((hA.below hW).below hW2) (Nat.le_refl _) ha
end
end Go.Proofs.YtcbokgnogcmheaaGreatDoor
