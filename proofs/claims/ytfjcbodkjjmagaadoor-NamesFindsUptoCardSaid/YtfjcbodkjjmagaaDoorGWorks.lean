/-
  Some of the chapter's examples: plain. By an AI agent.
  tesseralaw06.works: contract. By an AI agent.
-/
import Derived.Test.YtfjcbodkjjmagaaDoorWhole1
import Derived.Test.YtfjcbodkjjmagaaDoorGLocal
import Derived.Test.YtfjcbodkjjmagaaDoorGSpell
import Derived.Test.YtfjcbodkjjmagaaDoorShapes
import Derived.Test.YtfjcbodkjjmagaaDoorBasic
import Derived.KernelRfl
import Derived.Test.YtfjcbodkjjmagaaDoorTagsWalk
import Derived.WideLaws
namespace Go.Proofs.YtfjcbodkjjmagaaDoor
open Go.RowKit

theorem ex_loc : locF [97, 37, 52, 49, 92, 44, 98] 0 = .inl [97, 37, 52, 49, 44, 98] := by kernel_rfl
theorem ex_spell : spellF [45, 49, 46] 0 = some [92, 45, 49, 92, 46] := by kernel_rfl
theorem ex_tag : tagF [122, 104, 45, 99, 109, 110, 45, 72, 97, 110, 116, 45, 67, 78, 45, 120, 45, 121] = some ⟨[122, 104], [99, 109, 110], [72, 97, 110, 116], [67, 78], [], [], [120, 45, 121]⟩ := by kernel_rfl
theorem ex_case : caseF [69, 78, 45, 108, 97, 116, 110, 45, 117, 115, 45, 88, 45, 65, 66] = some [101, 110, 45, 76, 97, 116, 110, 45, 85, 83, 45, 120, 45, 97, 98] := by kernel_rfl
theorem ex_lab : labelNum [97, 46, 98] = 0 := by kernel_rfl
theorem ex_lab2 : labelNum [97, 46] = 60 := by kernel_rfl
theorem ex_basic : basicP [100, 101, 45, 100, 101] [100, 101, 45, 68, 69, 45, 49, 57, 57, 54] = true := by kernel_rfl
end Go.Proofs.YtfjcbodkjjmagaaDoor

namespace Go.Proofs.YtfjcbodkjjmagaaDoor
open Go.RowKit
set_option maxRecDepth 100000

set_option maxHeartbeats 3200000 in
theorem works_l (w : World) (hT : TabAt w) (hM : MaxAt w) : Calls Tryd.prog 36 #[] w fun e w' => e = .returned (.bool true) ∧ Below w.heap.size w w' := by
  have C1 : Hid (Calls Tryd.prog 26 #[.string { data := #[97, 37, 52, 49, 92, 44, 98] }] w fun e w' => LocPost w' e (.inl [97, 37, 52, 49, 44, 98]) ∧ Below w.heap.size w w') := Lib.hid (ex_loc ▸ local_l [97, 37, 52, 49, 92, 44, 98] w (by simp) hT)
  have C2 : Hid (∀ u, TabAt u → Calls Tryd.prog 20 #[.string { data := #[45, 49, 46] }] u fun e w' => e = .returned (.tuple #[.string { data := #[92, 45, 49, 92, 46] }, .bool true]) ∧ Below u.heap.size u w') := Lib.hid (fun u h => by
    have h := spell_l [45, 49, 46] u (by simp) h
    rw [ex_spell] at h
    exact h)
  have C3 : Hid (∀ u, MaxAt u → Calls Tryd.prog 29 #[.string { data := #[122, 104, 45, 99, 109, 110, 45, 72, 97, 110, 116, 45, 67, 78, 45, 120, 45, 121] }] u fun e w' => TagPost u w' e (some ⟨[122, 104], [99, 109, 110], [72, 97, 110, 116], [67, 78], [], [], [120, 45, 121]⟩)) := Lib.hid (fun u h => by
    have h := tag_l [122, 104, 45, 99, 109, 110, 45, 72, 97, 110, 116, 45, 67, 78, 45, 120, 45, 121] u h (by simp)
    rw [ex_tag] at h
    exact h)
  have C4 : Hid (∀ u, MaxAt u → Calls Tryd.prog 31 #[.string { data := #[69, 78, 45, 108, 97, 116, 110, 45, 117, 115, 45, 88, 45, 65, 66] }] u fun e w' => e = .returned (.tuple #[.string { data := #[101, 110, 45, 76, 97, 116, 110, 45, 85, 83, 45, 120, 45, 97, 98] }, .int .i64 0]) ∧ Below u.heap.size u w') := Lib.hid (fun u h => by
    have h := case_l [69, 78, 45, 108, 97, 116, 110, 45, 117, 115, 45, 88, 45, 65, 66] u h (by simp)
    rw [ex_case] at h
    exact h)
  have C5 : Hid (∀ u, TabAt u → Calls Tryd.prog 16 #[.string { data := #[97, 46, 98] }] u fun e w' => e = .returned (.int .i64 0) ∧ w' = u) := Lib.hid (fun u h => by
    have h := label_l [97, 46, 98] u (by simp) h
    rw [ex_lab] at h
    exact h)
  have C6 : Hid (∀ u, TabAt u → Calls Tryd.prog 16 #[.string { data := #[97, 46] }] u fun e w' => e = .returned (.int .i64 60) ∧ w' = u) := Lib.hid (fun u h => by
    have h := label_l [97, 46] u (by simp) h
    rw [ex_lab2] at h
    exact h)
  have C7 : Hid (∀ u, Calls Tryd.prog 22 #[.string { data := #[100, 101, 45, 100, 101] }, .string { data := #[100, 101, 45, 68, 69, 45, 49, 57, 57, 54] }] u fun e w' => e = .returned (.bool true) ∧ Below u.heap.size u w') := Lib.hid (fun u => by
    have h := basic_l [100, 101, 45, 100, 101] [100, 101, 45, 68, 69, 45, 49, 57, 57, 54] u (by simp) (by simp)
    rw [ex_basic] at h
    exact h)
  have NUM := Lib.hid num_l
  have HT := Lib.hid hT
  have HM := Lib.hid hM
  clear hT hM
  go_enter Tryd.func36, Tryd.ntmps36
  go_wp2_with fail
  refine C1.out.mono ?_
  rintro e w1 ⟨⟨v, rfl, hv⟩, hb1⟩
  obtain rfl : v = .nilIface := hv
  have HB1 := Lib.hid hb1
  clear hb1
  go_wp2_with fail
  refine (C2.out w1 (HT.out.below HB1.out)).mono ?_
  rintro e w2 ⟨rfl, hb2⟩
  have HB2 := Lib.hid (HB1.out.trans (hb2.mono HB1.out.size))
  clear hb2
  go_wp2_with fail
  refine (C3.out w2 (HM.out.below HB2.out)).mono ?_
  rintro e w3 ⟨a1, a2, c1, c2, rfl, hb3, _⟩
  have HB3 := Lib.hid (HB2.out.trans (hb3.mono HB2.out.size))
  simp only [tagCells]
  clear hb3
  go_wp2_with fail
  have hbA : Below w3.heap.size w3 (w3.alloc (.cells #[.string (B [122, 104]), .string (B [99, 109, 110]), .string (B [72, 97, 110, 116]), .string (B [67, 78]), .slice a1 0 c1, .slice a2 0 c2, .string (B [120, 45, 121])] 43)) := (Below.refl _ _).alloc (Nat.le_refl _) _
  have rA := row_new (w := w) (w1 := w3) 43 [.string (B [122, 104]), .string (B [99, 109, 110]), .string (B [72, 97, 110, 116]), .string (B [67, 78]), .slice a1 0 c1, .slice a2 0 c2, .string (B [120, 45, 121])]
  have sA : w3.heap.size < (w3.alloc (.cells #[.string (B [122, 104]), .string (B [99, 109, 110]), .string (B [72, 97, 110, 116]), .string (B [67, 78]), .slice a1 0 c1, .slice a2 0 c2, .string (B [120, 45, 121])] 43)).heap.size := by rw [World.size_alloc]; exact Nat.lt_succ_self _
  have hbV := HB3.out.trans (hbA.mono HB3.out.size)
  generalize w3.alloc (.cells #[.string (B [122, 104]), .string (B [99, 109, 110]), .string (B [72, 97, 110, 116]), .string (B [67, 78]), .slice a1 0 c1, .slice a2 0 c2, .string (B [120, 45, 121])] 43) = V at *
  simp only [sayF]
  refine (C4.out V (HM.out.below hbV)).mono ?_
  rintro e w5 ⟨rfl, hb5⟩
  have rA5 := rA.below hb5 sA
  have y2 := (row_of rA5 2 _ rfl).1
  have y6 := (row_of rA5 6 _ rfl).1
  have HB5 := Lib.hid (hbV.trans (hb5.mono hbV.size))
  have HT5 := Lib.hid (HT.out.below HB5.out)
  clear hb5 hbV hbA rA sA rA5
  go_wp2_with (first
    | (go_at_call 15; (with_reducible refine (NUM.out _ _).mono ?_); rintro e v8 ⟨rfl, hv8⟩; obtain rfl := hv8.symm)
    | (go_at_call 16; (with_reducible refine (C5.out _ HT5.out).mono ?_); rintro e v8 ⟨rfl, hv8⟩; obtain rfl := hv8.symm)
    | (go_at_call 16; (with_reducible refine (C6.out _ HT5.out).mono ?_); rintro e v8 ⟨rfl, hv8⟩; obtain rfl := hv8.symm)
    | (go_at_call 22; (with_reducible refine (C7.out _).mono ?_); rintro e w6 ⟨rfl, hb6⟩)
    | fail)
  go_ret
  exact ⟨rfl, HB5.out.trans (hb6.mono HB5.out.size)⟩
end Go.Proofs.YtfjcbodkjjmagaaDoor
