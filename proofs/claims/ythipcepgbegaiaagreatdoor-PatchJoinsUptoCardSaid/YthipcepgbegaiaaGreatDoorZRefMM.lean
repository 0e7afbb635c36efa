/-
  The reference's Meet and Minus: contracts. By an AI agent.
-/
import Derived.Test.YthipcepgbegaiaaGreatDoorZRefBothQ
namespace Go.Proofs.YthipcepgbegaiaaGreatDoor
open Go.RowKit
set_option maxRecDepth 100000
def twoR (a b : List QuadL) : Int := if riseB a && riseB b then 0 else 6
theorem QOwn.lessR {b1 b2 : Nat} {v : Value} {l : List QuadL} {w : World} (h : QOwn b2 v l w) (hb : b1 ≤ b2) : QOwn b1 v l w := by
  refine ⟨h.1, ?_⟩
  rcases h.2 with hn | ⟨g, cap, cur, rfl, h1, rest⟩
  · exact .inl hn
  · exact .inr ⟨g, cap, cur, rfl, by omega, rest⟩
set_option maxHeartbeats 2000000 in
theorem refMeet_l (a b : List QuadL) (v0 v1 : Value) (w : World) (h0 : QView w v0 a) (h1 : QView w v1 b) (n0 : a.length ≤ 2097152) (n1 : b.length ≤ 2097152) :
    Calls Tryz.prog 65 #[v0, v1] w fun e w' => ∃ v, e = .returned (.tuple #[v, .int .i64 (twoR a b)]) ∧ QOwn w.heap.size v (meetS a b) w' ∧ Below w.heap.size w w' := by
  have R0 := Lib.hid (refRises_l a v0 w h0 (by omega))
  have R1 := Lib.hid (fun (u : World) (hb : Below w.heap.size w u) => refRises_l b v1 u (h1.below hb) (by omega))
  have MG := Lib.hid (fun (u : World) (hb : Below w.heap.size w u) => refBoth_l true a b v0 v1 u (h0.below hb) (h1.below hb) n0 n1)
  have HX0 := Lib.hid (meetS_ref a b)
  obtain ⟨pa, ca, rfl⟩ := h0.form'
  obtain ⟨pb, cb, rfl⟩ := h1.form'
  clear h0 h1
  cases ha : riseB a with
  | false =>
    rw [ha] at R0
    have HE : Hid (twoR a b = 6 ∧ meetS a b = []) := Lib.hid (by rw [HX0.out]; unfold twoR; rw [ha]; exact ⟨rfl, rfl⟩)
    clear ha
    go_enter Tryz.func65, Tryz.ntmps65
    go_wp2_with (go_at_call 92; (with_reducible refine R0.out.mono ?_); rintro e w3 ⟨rfl, hb3⟩)
    go_ret2
    exact ⟨.slice none 0 0, by rw [HE.out.1]; rfl, by rw [HE.out.2]; exact QOwn.nil _ _, hb3⟩
  | true =>
    rw [ha] at R0
    cases hb : riseB b with
    | false =>
      rw [hb] at R1
      have HE : Hid (twoR a b = 6 ∧ meetS a b = []) := Lib.hid (by rw [HX0.out]; unfold twoR; rw [ha, hb]; exact ⟨rfl, rfl⟩)
      clear ha hb
      go_enter Tryz.func65, Tryz.ntmps65
      go_wp2_with (first | (go_at_call 92; (with_reducible refine R0.out.mono ?_); rintro e w3 ⟨rfl, hb3⟩; clear R0) | (go_at_call 92; (with_reducible refine (R1.out _ hb3).mono ?_); rintro e w4 ⟨rfl, hb4⟩; clear R1))
      go_ret2
      exact ⟨.slice none 0 0, by rw [HE.out.1]; rfl, by rw [HE.out.2]; exact QOwn.nil _ _, hb3.trans (hb4.mono hb3.size)⟩
    | true =>
      rw [hb] at R1
      have HE : Hid (twoR a b = 0 ∧ meetS a b = bothR true a b) := Lib.hid (by rw [HX0.out]; unfold twoR; rw [ha, hb]; exact ⟨rfl, rfl⟩)
      clear ha hb
      go_enter Tryz.func65, Tryz.ntmps65
      go_wp2_with (first | (go_at_call 92; (with_reducible refine R0.out.mono ?_); rintro e w3 ⟨rfl, hb3⟩; clear R0) | (go_at_call 92; (with_reducible refine (R1.out _ hb3).mono ?_); rintro e w4 ⟨rfl, hb4⟩; clear R1) | (go_at_call 93; (with_reducible refine (MG.out _ (hb3.trans (hb4.mono hb3.size))).mono ?_); rintro e w5 ⟨v, rfl, ho, hb5⟩; have HX := Lib.hid (And.intro ho hb5); clear ho hb5))
      go_ret2
      exact ⟨v, by rw [HE.out.1]; rfl, by rw [HE.out.2]; exact QOwn.lessR HX.out.1 (Nat.le_trans hb3.size hb4.size), (hb3.trans (hb4.mono hb3.size)).trans (HX.out.2.mono (Nat.le_trans hb3.size hb4.size))⟩
set_option maxHeartbeats 2000000 in
theorem refMinus_l (a b : List QuadL) (v0 v1 : Value) (w : World) (h0 : QView w v0 a) (h1 : QView w v1 b) (n0 : a.length ≤ 2097152) (n1 : b.length ≤ 2097152) :
    Calls Tryz.prog 64 #[v0, v1] w fun e w' => ∃ v, e = .returned (.tuple #[v, .int .i64 (twoR a b)]) ∧ QOwn w.heap.size v (minusS a b) w' ∧ Below w.heap.size w w' := by
  have R0 := Lib.hid (refRises_l a v0 w h0 (by omega))
  have R1 := Lib.hid (fun (u : World) (hb : Below w.heap.size w u) => refRises_l b v1 u (h1.below hb) (by omega))
  have MG := Lib.hid (fun (u : World) (hb : Below w.heap.size w u) => refBoth_l false a b v0 v1 u (h0.below hb) (h1.below hb) n0 n1)
  have HX0 := Lib.hid (minusS_ref a b)
  obtain ⟨pa, ca, rfl⟩ := h0.form'
  obtain ⟨pb, cb, rfl⟩ := h1.form'
  clear h0 h1
  cases ha : riseB a with
  | false =>
    rw [ha] at R0
    have HE : Hid (twoR a b = 6 ∧ minusS a b = []) := Lib.hid (by rw [HX0.out]; unfold twoR; rw [ha]; exact ⟨rfl, rfl⟩)
    clear ha
    go_enter Tryz.func64, Tryz.ntmps64
    go_wp2_with (go_at_call 92; (with_reducible refine R0.out.mono ?_); rintro e w3 ⟨rfl, hb3⟩)
    go_ret2
    exact ⟨.slice none 0 0, by rw [HE.out.1]; rfl, by rw [HE.out.2]; exact QOwn.nil _ _, hb3⟩
  | true =>
    rw [ha] at R0
    cases hb : riseB b with
    | false =>
      rw [hb] at R1
      have HE : Hid (twoR a b = 6 ∧ minusS a b = []) := Lib.hid (by rw [HX0.out]; unfold twoR; rw [ha, hb]; exact ⟨rfl, rfl⟩)
      clear ha hb
      go_enter Tryz.func64, Tryz.ntmps64
      go_wp2_with (first | (go_at_call 92; (with_reducible refine R0.out.mono ?_); rintro e w3 ⟨rfl, hb3⟩; clear R0) | (go_at_call 92; (with_reducible refine (R1.out _ hb3).mono ?_); rintro e w4 ⟨rfl, hb4⟩; clear R1))
      go_ret2
      exact ⟨.slice none 0 0, by rw [HE.out.1]; rfl, by rw [HE.out.2]; exact QOwn.nil _ _, hb3.trans (hb4.mono hb3.size)⟩
    | true =>
      rw [hb] at R1
      have HE : Hid (twoR a b = 0 ∧ minusS a b = bothR false a b) := Lib.hid (by rw [HX0.out]; unfold twoR; rw [ha, hb]; exact ⟨rfl, rfl⟩)
      clear ha hb
      go_enter Tryz.func64, Tryz.ntmps64
      go_wp2_with (first | (go_at_call 92; (with_reducible refine R0.out.mono ?_); rintro e w3 ⟨rfl, hb3⟩; clear R0) | (go_at_call 92; (with_reducible refine (R1.out _ hb3).mono ?_); rintro e w4 ⟨rfl, hb4⟩; clear R1) | (go_at_call 93; (with_reducible refine (MG.out _ (hb3.trans (hb4.mono hb3.size))).mono ?_); rintro e w5 ⟨v, rfl, ho, hb5⟩; have HX := Lib.hid (And.intro ho hb5); clear ho hb5))
      go_ret2
      exact ⟨v, by rw [HE.out.1]; rfl, by rw [HE.out.2]; exact QOwn.lessR HX.out.1 (Nat.le_trans hb3.size hb4.size), (hb3.trans (hb4.mono hb3.size)).trans (HX.out.2.mono (Nat.le_trans hb3.size hb4.size))⟩
end Go.Proofs.YthipcepgbegaiaaGreatDoor
