/-
  tesseralaw06.NamesBack: the walk. By an AI agent.
-/
import Derived.Test.YtfjcbodkjjmagaaDoorGWorks
import Derived.Test.YtfjcbodkjjmagaaDoorBack0
namespace Go.Proofs.YtfjcbodkjjmagaaDoor
open Go.RowKit
set_option maxRecDepth 100000

theorem local_says (x c : List UInt8) (hx : x.length ≤ 140737488351232) (h : locF x 0 = .inl c) (u : World) (hu : TabAt u) :
    Calls Tryd.prog 26 #[.string (B x)] u fun e w' => e = .returned (.tuple #[.string (B c), .nilIface]) ∧ Below u.heap.size u w' :=
  (local_l x u hx hu).mono fun e w' ⟨⟨v, he, hv⟩, hb⟩ => by
    rw [h] at he hv
    obtain rfl : v = .nilIface := hv
    exact ⟨he, hb⟩
theorem local_fails (x : List UInt8) {y : Nat × Int} (hx : x.length ≤ 140737488351232) (h : locF x 0 = .inr y) (u : World) (hu : TabAt u) :
    Calls Tryd.prog 26 #[.string (B x)] u fun e w' => (∃ b, e = .returned (.tuple #[.string (B []), .iface 87 (.pointer (some ⟨b, 0, none⟩))])) ∧ Below u.heap.size u w' :=
  (local_l x u hx hu).mono fun e w' ⟨⟨v, he, hv⟩, hb⟩ => by
    rw [h] at he hv
    obtain ⟨p, n⟩ := y
    obtain ⟨b, rfl, _, _⟩ := hv
    exact ⟨⟨b, he⟩, hb⟩
theorem spell_says (x a : List UInt8) (hx : x.length ≤ 16777216) (h : spellF x 0 = some a) (u : World) (hu : TabAt u) :
    Calls Tryd.prog 20 #[.string (B x)] u fun e w' => e = .returned (.tuple #[.string (B a), .bool true]) ∧ Below u.heap.size u w' := by
  have := spell_l x u hx hu
  rw [h] at this
  exact this
theorem spell_fails (x : List UInt8) (hx : x.length ≤ 16777216) (h : spellF x 0 = none) (u : World) (hu : TabAt u) :
    Calls Tryd.prog 20 #[.string (B x)] u fun e w' => e = .returned (.tuple #[.string (B []), .bool false]) ∧ Below u.heap.size u w' := by
  have := spell_l x u hx hu
  rw [h] at this
  exact this

set_option maxHeartbeats 3200000 in
theorem back_walk (s : List UInt8) (w : World) (hT : TabAt w) (hM : MaxAt w) (hs : s.length ≤ 1048576) :
    Calls Tryd.prog 9 #[.string (B s)] w fun e w' => e = .returned (.bool true) ∧ Below w.heap.size w w' := by
  have WK := Lib.hid (works_l w hT hM)
  have HT := Lib.hid hT
  obtain ⟨a, ok, b, C1, C2, hok⟩ : ∃ (a : List UInt8) (ok : Bool) (b : List UInt8), Hid (∀ u, TabAt u → Calls Tryd.prog 20 #[.string (B s)] u fun e w' => e = .returned (.tuple #[.string (B a), .bool ok]) ∧ Below u.heap.size u w') ∧
      Hid (∀ u, TabAt u → Calls Tryd.prog 26 #[.string (B a)] u fun e w' => e = .returned (.tuple #[.string (B b), .nilIface]) ∧ Below u.heap.size u w') ∧ ((ok = true ∧ b = s) ∨ (ok = false ∧ a = [])) := by
    cases h : spellF s 0 with
    | none => exact ⟨[], false, [], Lib.hid (spell_fails s (by omega) h), Lib.hid (local_says [] [] (by simp) (locF_end (by simp))), .inr ⟨rfl, rfl⟩⟩
    | some a =>
      have hl := spellF_len s.length s a 0 (by omega) h
      exact ⟨a, true, s, Lib.hid (spell_says s a (by omega) h), Lib.hid (local_says a s (by omega) (back_spell h)), .inl ⟨rfl, rfl⟩⟩
  cases hl : locF s 0 with
  | inr y =>
    have C3 := Lib.hid (local_fails s (by omega) hl)
    clear hl hT hM
    rcases hok with ⟨rfl, rfl⟩ | ⟨rfl, rfl⟩
    all_goals
      go_enter Tryd.func9, Tryd.ntmps9
      go_wp2_with fail
      refine WK.out.mono ?_
      rintro e w1 ⟨rfl, hb1⟩
      have HB1 := Lib.hid hb1
      clear hb1
      go_wp2_with fail
      refine (C1.out _ (HT.out.below HB1.out)).mono ?_
      rintro e w2 ⟨rfl, hb2⟩
      have HB2 := Lib.hid (HB1.out.trans (hb2.mono HB1.out.size))
      clear hb2
      go_wp2_with fail
      refine (C2.out _ (HT.out.below HB2.out)).mono ?_
      rintro e w3 ⟨rfl, hb3⟩
      have HB3 := Lib.hid (HB2.out.trans (hb3.mono HB2.out.size))
      clear hb3
      go_wp2_with fail
      refine (C3.out _ (HT.out.below HB3.out)).mono ?_
      rintro e w4 ⟨⟨g, rfl⟩, hb4⟩
      have HB4 := Lib.hid (HB3.out.trans (hb4.mono HB3.out.size))
      clear hb4
      go_wp2_with fail
      go_ret
      exact ⟨rfl, HB4.out⟩
  | inl c =>
    obtain ⟨d, hd1, hd2, hd3⟩ := back_local hl
    have hcl : c.length ≤ 1048576 := by
      have := locF_len s.length s c 0 (by omega) hl
      omega
    have C3 := Lib.hid (local_says s c (by omega) hl)
    have C4 := Lib.hid (spell_says c d (by omega) hd1)
    have C5 := Lib.hid (local_says d c (by omega) hd3)
    clear hl hT hM hd1 hd3
    rcases hok with ⟨rfl, rfl⟩ | ⟨rfl, rfl⟩
    all_goals
      go_enter Tryd.func9, Tryd.ntmps9
      go_wp2_with fail
      refine WK.out.mono ?_
      rintro e w1 ⟨rfl, hb1⟩
      have HB1 := Lib.hid hb1
      clear hb1
      go_wp2_with fail
      refine (C1.out _ (HT.out.below HB1.out)).mono ?_
      rintro e w2 ⟨rfl, hb2⟩
      have HB2 := Lib.hid (HB1.out.trans (hb2.mono HB1.out.size))
      clear hb2
      go_wp2_with fail
      refine (C2.out _ (HT.out.below HB2.out)).mono ?_
      rintro e w3 ⟨rfl, hb3⟩
      have HB3 := Lib.hid (HB2.out.trans (hb3.mono HB2.out.size))
      clear hb3
      go_wp2_with fail
      refine (C3.out _ (HT.out.below HB3.out)).mono ?_
      rintro e w4 ⟨rfl, hb4⟩
      have HB4 := Lib.hid (HB3.out.trans (hb4.mono HB3.out.size))
      clear hb4
      go_wp2_with fail
      refine (C4.out _ (HT.out.below HB4.out)).mono ?_
      rintro e w5 ⟨rfl, hb5⟩
      have HB5 := Lib.hid (HB4.out.trans (hb5.mono HB4.out.size))
      clear hb5
      go_wp2_with fail
      refine (C5.out _ (HT.out.below HB5.out)).mono ?_
      rintro e w6 ⟨rfl, hb6⟩
      have HB6 := Lib.hid (HB5.out.trans (hb6.mono HB5.out.size))
      clear hb6
      go_wp2_with fail
      go_ret
      exact ⟨rfl, HB6.out⟩
end Go.Proofs.YtfjcbodkjjmagaaDoor
