/-
  names.Local: contract. By an AI agent.
-/
import Derived.Test.YtfjcbodkjjmagaaDoorLocal1
namespace Go.Proofs.YtfjcbodkjjmagaaDoor
open Go.RowKit
set_option maxRecDepth 100000

/-- an error as Local gives it, or none -/
def ErrIs (w : World) (v : Value) : List UInt8 ⊕ (Nat × Int) → Prop
  | .inl _ => v = .nilIface
  | .inr (p, n) => ∃ b, v = .iface 87 (.pointer (some ⟨b, 0, none⟩)) ∧ w.cell? ⟨b, 0, none⟩ = some (.int .i64 (p : Int)) ∧ w.cell? ⟨b, 1, none⟩ = some (.iface 25 (.int .i64 n))
theorem ErrIs.below {w w' : World} {v : Value} {x : List UInt8 ⊕ (Nat × Int)} (h : ErrIs w v x) (hb : Below w.heap.size w w') : ErrIs w' v x := by
  rcases x with t | ⟨p, n⟩
  · exact h
  · obtain ⟨b, rfl, h1, h2⟩ := h
    exact ⟨b, rfl, by rw [hb.cell (World.block_lt_of_cell? _ _ h1)]; exact h1, by rw [hb.cell (World.block_lt_of_cell? _ _ h2)]; exact h2⟩
theorem wrong_l (p n : Int) (w : World) : Calls Tryd.prog 62 #[.int .i64 p, .int .i64 n] w fun e w' => e = .returned (.iface 87 (.pointer (some ⟨w.heap.size, 0, none⟩))) ∧ w' = w.alloc (.cells #[.int .i64 p, .iface 25 (.int .i64 n)] 91) := by
  go_enter Tryd.func62, Tryd.ntmps62
  go_wp2
  go_ret
  exact ⟨rfl, rfl⟩

def LocPost (w' : World) (e : Ending) (x : List UInt8 ⊕ (Nat × Int)) : Prop := ∃ v, e = .returned (.tuple #[.string (B (sayF x)), v]) ∧ ErrIs w' v x
theorem locPost_bad {x : List UInt8 ⊕ (Nat × Int)} {p : Nat} {n : Int} {w : World} (h : x = .inr (p, n)) :
    LocPost (w.alloc (.cells #[.int .i64 (p : Int), .iface 25 (.int .i64 n)] 91)) (.returned (.tuple #[.string ⟨#[]⟩, .iface 87 (.pointer (some ⟨w.heap.size, 0, none⟩))])) x := by
  subst h
  exact ⟨_, rfl, _, rfl, by rw [World.cell?_alloc_new]; rfl, by rw [World.cell?_alloc_new]; rfl⟩

set_option maxHeartbeats 1600000 in
theorem local_l (l : List UInt8) (w : World) (hl : l.length ≤ 140737488351232) (hT : TabAt w) :
    Calls Tryd.prog 26 #[.string (B l)] w fun e w' => LocPost w' e (locF l 0) ∧ Below w.heap.size w w' := by
  have PIE := Lib.hid (fun (j : Nat) (hj : j < l.length) (t : List UInt8) (n : Nat) (r : Int) (h : pieceF l j = (t, n, r)) (w : World) => h ▸ piece_l l j w hl hj)
  have WRI := Lib.hid writeString_l
  have STR := Lib.hid builderString_l
  have WRO := Lib.hid wrong_l
  have HT := Lib.hid hT
  clear hT
  go_enter Tryd.func26, Tryd.ntmps26
  go_wp2_with fail
  go_loopw [5] (fun i wr => ∃ (j : Nat) (acc : List UInt8), i = .int .i64 j ∧ j ≤ l.length ∧ acc.length ≤ j ∧ Hid (locF l 0 = putF acc (locF l j)) ∧ BuildsB wr w.heap.size w.heap.size acc ∧ Below w.heap.size w wr) (fun i _ => l.length - (intOf i).toNat)
  case atStart => exact ⟨0, [], rfl, Nat.zero_le _, Nat.le_refl _, Lib.hid (putF_nil _).symm, Lib.fresh_isBuilder _ _ _, (Below.refl _ _).alloc (Nat.le_refl _) _⟩
  case round =>
    obtain ⟨j, acc, rfl, hj, hacc, HS, hbu, hb⟩ := hrel
    by_cases hlt : j < l.length
    · obtain ⟨t, n, r, hq⟩ : ∃ t n r, pieceF l j = (t, n, r) := ⟨_, _, _, rfl⟩
      have P2 := Lib.hid (PIE.out j hlt t n r hq)
      rcases piece_cases hq with ⟨hr, hst⟩ | ⟨hr, hst⟩ | ⟨hr, hst⟩ | ⟨hr, hjn, hst⟩
      · subst hr
        have hbd := stepL_bound hst
        have hjn : j + n ≤ l.length := by omega
        have hjn1 : j < j + n := by omega
        have HE : Hid (locF l 0 = putF (acc ++ t) (locF l (j + n))) := Lib.hid (by rw [HS.out, locF_step hlt hst, putF_put])
        have HL := Lib.hid hbd.2.2
        have hlx : acc.length + t.length ≤ 140737488355328 := by omega
        clear hq HS hst hbd
        go_wp2_with (first | (go_at_call 61; refine (P2.out _).mono ?_; rintro e w1 ⟨rfl, rfl⟩; unfold pieceV) | (go_at_call 51; refine (WRI.out _ _ acc t _ hbu ?c1 hb.size).mono ?_; rotate_left; rintro e w4 ⟨rfl, hbu2, hb4⟩; replace hb := hb.trans hb4; clear hbu hb4))
        case c1 => exact hlx
        go_roundw
        case rel => exact ⟨j + n, acc ++ t, by go_num, hjn, by have := HL.out; simp; omega, HE, hbu2, hb⟩
        case measure => simp [intOf]; omega
      · subst hr
        have HE : Hid (locF l 0 = .inr (j, 40)) := Lib.hid (by rw [HS.out, locF_bad hlt hst]; rfl)
        clear hq HS hst
        go_wp2_with (first | (go_at_call 61; refine (P2.out _).mono ?_; rintro e w1 ⟨rfl, rfl⟩; unfold pieceV) | (go_at_call 62; refine (WRO.out _ _ _).mono ?_; rintro e w4 ⟨rfl, rfl⟩))
        go_ret2
        exact ⟨locPost_bad HE.out, hb.alloc hb.size _⟩
      · subst hr
        have HE : Hid (locF l 0 = .inr (j, 62)) := Lib.hid (by rw [HS.out, locF_bad hlt hst]; rfl)
        clear hq HS hst
        go_wp2_with (first | (go_at_call 61; refine (P2.out _).mono ?_; rintro e w1 ⟨rfl, rfl⟩; unfold pieceV) | (go_at_call 62; refine (WRO.out _ _ _).mono ?_; rintro e w4 ⟨rfl, rfl⟩))
        go_ret2
        exact ⟨locPost_bad HE.out, hb.alloc hb.size _⟩
      · have r3 : (r == -3) = false := beq_eq_false_iff_ne.2 (by omega)
        have r2 : (r == -2) = false := beq_eq_false_iff_ne.2 (by omega)
        have STA : Hid (∀ w, TabAt w → Calls Tryd.prog 50 #[.int .i32 r, .bool ((j : Int) == 0), .bool ((j : Int) + (n : Int) == (l.length : Int))] w fun e w' => e = .returned (.bool (standsB r (decide (j = 0)) (decide (j + n = l.length)))) ∧ w' = w) := by
          refine Lib.hid (fun w h => ?_)
          have h1 : ((j : Int) == 0) = decide (j = 0) := by rw [Bool.eq_iff_iff]; simp
          have h2 : ((j : Int) + (n : Int) == (l.length : Int)) = decide (j + n = l.length) := by rw [Bool.eq_iff_iff]; simp; omega
          rw [h1, h2]
          exact stands_any r _ _ w h
        have hnn : n ≤ l.length := by omega
        cases hs : standsB r (decide (j = 0)) (decide (j + n = l.length)) with
        | true =>
          rw [hs, if_pos rfl] at hst
          rw [hs] at STA
          have hbd := stepL_bound hst
          have hjn1 : j < j + n := by omega
          have HE : Hid (locF l 0 = putF (acc ++ t) (locF l (j + n))) := Lib.hid (by rw [HS.out, locF_step hlt hst, putF_put])
          have HL := Lib.hid hbd.2.2
          have hlx : acc.length + t.length ≤ 140737488355328 := by omega
          clear hq HS hst hbd hs
          go_wp2_with (first | (go_at_call 61; refine (P2.out _).mono ?_; rintro e w1 ⟨rfl, rfl⟩; unfold pieceV) | (go_at_call 50; refine (STA.out _ (HT.out.below hb)).mono ?_; rintro e w2 ⟨rfl, rfl⟩) | (go_at_call 51; refine (WRI.out _ _ acc t _ hbu ?c1 hb.size).mono ?_; rotate_left; rintro e w4 ⟨rfl, hbu2, hb4⟩; replace hb := hb.trans hb4; clear hbu hb4))
          case c1 => exact hlx
          go_roundw
          case rel => exact ⟨j + n, acc ++ t, by go_num, hjn, by have := HL.out; simp; omega, HE, hbu2, hb⟩
          case measure => simp [intOf]; omega
        | false =>
          rw [hs, if_neg (by simp)] at hst
          rw [hs] at STA
          have HE : Hid (locF l 0 = .inr (j, 62)) := Lib.hid (by rw [HS.out, locF_bad hlt hst]; rfl)
          clear hq HS hst hs
          go_wp2_with (first | (go_at_call 61; refine (P2.out _).mono ?_; rintro e w1 ⟨rfl, rfl⟩; unfold pieceV) | (go_at_call 50; refine (STA.out _ (HT.out.below hb)).mono ?_; rintro e w2 ⟨rfl, rfl⟩) | (go_at_call 62; refine (WRO.out _ _ _).mono ?_; rintro e w4 ⟨rfl, rfl⟩))
          go_ret2
          exact ⟨locPost_bad HE.out, hb.alloc hb.size _⟩
    · obtain rfl : j = l.length := by omega
      have HE : Hid (locF l 0 = .inl acc) := Lib.hid (by rw [HS.out, locF_end (Nat.le_refl _)]; simp [putF])
      clear HS
      go_wp2_with (go_at_call 54; refine (STR.out _ _ acc _ hbu hb.size).mono ?_; rintro e w4 ⟨rfl, hb4⟩; replace hb := hb.trans hb4)
      go_ret2
      exact ⟨⟨_, by rw [HE.out]; rfl, by rw [HE.out]; rfl⟩, hb⟩
end Go.Proofs.YtfjcbodkjjmagaaDoor
