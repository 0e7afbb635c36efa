/-
  The closure within names.Join: contract. By an AI agent.
-/
import Derived.Test.YtfjcbodkjjmagaaDoorApp
import Derived.Test.YtfjcbodkjjmagaaDoorGPlain
import Derived.Test.YtfjcbodkjjmagaaDoorParts
import Derived.RangeFuncBox
namespace Go.Proofs.YtfjcbodkjjmagaaDoor
open Go.RowKit
set_option maxRecDepth 100000

/-- a variable of []string, at block b, that holds a row of the call's own behind it -/
def VarOf (w : World) (b : Nat) (v : Value) (ls : List (List UInt8)) : Prop := w.cell? ⟨b, 0, none⟩ = some v ∧ w.frozen? ⟨b, 0, none⟩ = false ∧ w.ownsRow (b + 1) 9 1 v ls.length (ls.map strV)

theorem grownBy_trans {w v u : World} {r : Option Nat} (h : w.grownBy v r) (h2 : v.grownBy u r) : w.grownBy u r :=
  ⟨h2.1.trans h.1, h2.2.trans h.2, h2.3.trans h.3, Nat.le_trans h.4 h2.4, fun b hb hn => (h2.5 b (Nat.lt_of_lt_of_le hb h.4) hn).trans (h.5 b hb hn)⟩
theorem ownsRow_set {w : World} {base b : Nat} {e : TypeId} {size : Nat} {v : Value} {n : Nat} {xs : List Value} (h : w.ownsRow base e size v n xs) (hb : b + 1 ≤ base) (u : Value) : (w.setCell ⟨b, 0, none⟩ u).ownsRow base e size v n xs := by
  refine ⟨h.1, ?_⟩
  rcases h.2 with hn | ⟨g, cap, cur, rfl, h1, h2, rest⟩
  · exact .inl hn
  · refine .inr ⟨g, cap, cur, rfl, h1, ?_, rest⟩
    rw [(grownBy_setCell' w b u).block g (Array.getElem?_eq_some_iff.1 h2).1 (by simp; omega)]
    exact h2

set_option maxHeartbeats 1600000 in
theorem add_l (xs acc : List (List UInt8)) (a : Option Addr) (c b : Nat) (v : Value) (w : World) (hx : xs.length ≤ 16777216) (hacc : acc.length ≤ 67108864) (hA : At w a (xs.map strV)) (hV : VarOf w b v acc)
    (hne : ∀ p, a = some p → some p.block ≠ v.ownBlock ∧ p.block ≠ b) :
    Calls Tryd.prog 82 #[.slice a xs.length c, .pointer (some ⟨b, 0, none⟩)] w fun e w' => (∃ r, e = .returned r) ∧ ∃ v', VarOf w' b v' (acc ++ keepL xs) ∧ Below b w w' := by
  obtain ⟨i0, hi, hz0, hz1, hz2⟩ := info_parts infoStr
  have hbl : b < w.heap.size := World.block_lt_of_cell? _ _ hV.1
  go_enter Tryd.func82, Tryd.ntmps82
  go_wp2_with fail
  go_loopw [7] (fun i wr => ∃ (k : Nat) (v : Value), i = .int .i64 k ∧ k ≤ xs.length ∧ At wr a (xs.map strV) ∧ VarOf wr b v (acc ++ keepL (xs.take k)) ∧ (∀ p, a = some p → some p.block ≠ v.ownBlock ∧ p.block ≠ b) ∧ Below b w wr) (fun i _ => xs.length - (intOf i).toNat)
  case atStart => exact ⟨0, v, rfl, Nat.zero_le _, hA, by simpa [keepL_nil] using hV, hne, Below.refl _ _⟩
  case round =>
    clear hA hV hne
    obtain ⟨k, v, rfl, hk, hA, hV, hne, hb⟩ := hrel
    by_cases hlt : k < xs.length
    · obtain ⟨pb, po, rfl⟩ := hA.place (by simpa using Nat.lt_of_le_of_lt (Nat.zero_le _) hlt)
      have hcell : wr.cell? ⟨pb, po + k, none⟩ = some (.string (B xs[k])) := by
        have h := hA.get (j := k) (by simpa using hlt)
        simpa [strV] using h
      obtain ⟨x, hx'⟩ : ∃ x, xs[k] = x := ⟨_, rfl⟩
      rw [hx'] at hcell
      have hT := keepL_take hlt
      rw [hx'] at hT
      have hlen := keepL_len (xs.take k)
      rw [List.length_take] at hlen
      obtain ⟨n1, n2⟩ := hne _ rfl
      cases hq : (x == []) with
      | true =>
        have HV : Hid (VarOf wr b v (acc ++ keepL (xs.take (k + 1)))) := Lib.hid (by rw [hT, keepL_no hq, keepL_nil, List.append_nil]; exact hV)
        have HA := Lib.hid hA
        have HN := Lib.hid hne
        clear hT hV hA hne n1 n2 hx' hlen
        go_wp2_with fail
        go_roundw
        case rel => exact ⟨k + 1, v, by go_num, hlt, HA.out, HV.out, HN.out, hb⟩
        case measure => simp [intOf]; omega
      | false =>
        obtain ⟨hc, hf, hown⟩ := hV
        have HA := Lib.hid hA
        have hbw : b < wr.heap.size := World.block_lt_of_cell? _ _ hc
        have hpw : pb < wr.heap.size := World.block_lt_of_cell? _ _ hcell
        have HT : Hid (acc ++ keepL (xs.take (k + 1)) = (acc ++ keepL (xs.take k)) ++ [x]) := Lib.hid (by rw [hT, keepL_yes hq, keepL_nil, List.append_assoc])
        obtain ⟨ys, hys⟩ : ∃ ys, acc ++ keepL (xs.take k) = ys := ⟨_, rfl⟩
        have hyl : ys.length ≤ 67108864 + 16777216 := by rw [← hys, List.length_append]; omega
        rw [hys] at hown HT
        have HN := Lib.hid (And.intro n1 n2)
        clear hT hA hne hx' hys hlen n1 n2
        go_wp2_with (at_builtin; refine wpList_append_texts rfl (.tmp 13) (.tmp 15) 41 rfl (b + 1) 9 i0 (.string ⟨#[]⟩) 16 Tryd.underlying41 hi hz0 hz1 hz2 rfl _ _ _ rfl (hown.alloc _) (some ⟨wr.heap.size, 0, none⟩) 1 1 [.string (B x)] rfl rfl ?c1 ?c2 ?c3 ?c4 ?c5 ?c6 ?_)
        case c1 => exact at_one _ _ _
        case c3 => rfl
        case c4 => unfold maxLen; omega
        case c5 => omega
        case c6 => omega
        intro v' w1 hown1 hg1 ho1
        obtain ⟨ga, gc, rfl, _, _, _⟩ := ownsRow_at hown1
        have hlt' : ∀ g, v.ownBlock = some g → b + 1 ≤ g ∧ g < wr.heap.size := fun g hg => hown.lt g hg
        have hs1 : (wr.alloc (.cells #[.string (B x)] 9)).heap.size = wr.heap.size + 1 := World.size_alloc _ _
        have hvb : some b ≠ v.ownBlock := fun e => by have := (hlt' b e.symm).1; omega
        have hgg : wr.grownBy w1 v.ownBlock := grownBy_trans (World.grownBy_alloc wr _ _) hg1
        have hc1 : w1.cell? ⟨b, 0, none⟩ = some v := (hgg.cell_far ⟨b, 0, none⟩ hbw hvb).trans hc
        have hf1 : w1.frozen? ⟨b, 0, none⟩ = false := (hgg.frozen_far ⟨b, 0, none⟩ hbw hvb).trans hf
        have hb1 : Below b w w1 := (hb.alloc (by omega) _).grown hg1 (by omega) (fun j hj => by have := (hlt' j hj).1; omega)
        have hA1 : At w1 (some ⟨pb, po, none⟩) (xs.map strV) := HA.out.grown hgg (fun p e => by cases e; exact HN.out.1)
        have hA2 : At (w1.setCell ⟨b, 0, none⟩ (.slice ga (ys.length + 1) gc)) (some ⟨pb, po, none⟩) (xs.map strV) := hA1.grown (grownBy_setCell' w1 b _) (fun p e => by cases e; simpa using HN.out.2)
        have hV2 : VarOf (w1.setCell ⟨b, 0, none⟩ (.slice ga (ys.length + 1) gc)) b (.slice ga (ys.length + 1) gc) (acc ++ keepL (xs.take (k + 1))) := by
          rw [HT.out]
          refine ⟨World.cell?_setCell_same' _ _ _ (by rw [hc1]; rfl), by rw [World.frozen?_setCell]; exact hf1, ?_⟩
          have h := ownsRow_set hown1 (Nat.le_refl _) (.slice ga (ys.length + 1) gc)
          rw [List.length_append, List.map_append]
          exact h
        have hN2 : ∀ p : Addr, (some ⟨pb, po, none⟩ : Option Addr) = some p → some p.block ≠ (Value.slice ga (ys.length + 1) gc).ownBlock ∧ p.block ≠ b := fun p e => by
          cases e
          refine ⟨?_, HN.out.2⟩
          rcases ho1 with h | h
          · rw [h]; exact HN.out.1
          · rw [h]; simp; omega
        have HA2 := Lib.hid hA2
        have HV2 := Lib.hid hV2
        have HN2 := Lib.hid hN2
        have HB2 := Lib.hid (hb1.setCell (p := ⟨b, 0, none⟩) (Nat.le_refl _) (.slice ga (ys.length + 1) gc))
        clear hA1 hA2 hV2 hN2 hown hown1 hg1 hgg ho1 hb hb1 hlt' hvb
        go_wp2_with fail
        go_roundw
        case rel => exact ⟨k + 1, _, by go_num, hlt, HA2.out, HV2.out, HN2.out, HB2.out⟩
        case measure => simp [intOf]; omega
    · obtain rfl : k = xs.length := by omega
      rw [List.take_length] at hV
      have HV := Lib.hid hV
      clear hV hA hne
      go_wp2_with fail
      go_end0
      exact ⟨⟨_, rfl⟩, v, HV.out, hb⟩
end Go.Proofs.YtfjcbodkjjmagaaDoor
