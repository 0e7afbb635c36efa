/-
  The reference's Union: contract. By an AI agent.
-/
import Derived.Test.YthipcepgbegaiaaGreatDoorZRefMerged
import Derived.Test.YthipcepgbegaiaaGreatDoorZRefMM
namespace Go.Proofs.YthipcepgbegaiaaGreatDoor
open Go.RowKit
set_option maxRecDepth 100000
set_option maxHeartbeats 2000000 in
theorem refUnion_l (a b : List QuadL) (v0 v1 : Value) (w : World) (h0 : QView w v0 a) (h1 : QView w v1 b) (n0 : a.length ≤ 2097152) (n1 : b.length ≤ 2097152) :
    Calls Tryz.prog 66 #[v0, v1] w fun e w' => ∃ v, e = .returned (.tuple #[v, .int .i64 (twoR a b)]) ∧ QOwn w.heap.size v (unionS a b) w' ∧ Below w.heap.size w w' := by
  have R0 := Lib.hid (refRises_l a v0 w h0 (by omega))
  have R1 := Lib.hid (fun (u : World) (hb : Below w.heap.size w u) => refRises_l b v1 u (h1.below hb) (by omega))
  have MG := Lib.hid (fun (u : World) (hb : Below w.heap.size w u) => refMerged_l a b v0 v1 u (h0.below hb) (h1.below hb) n0 n1)
  have HX0 := Lib.hid (unionS_ref a b)
  obtain ⟨pa, ca, rfl⟩ := h0.form'
  obtain ⟨pb, cb, rfl⟩ := h1.form'
  clear h0 h1
  cases ha : riseB a with
  | false =>
    rw [ha] at R0
    have HE : Hid (twoR a b = 6 ∧ unionS a b = []) := Lib.hid (by rw [HX0.out]; unfold twoR; rw [ha]; exact ⟨rfl, rfl⟩)
    clear ha
    go_enter Tryz.func66, Tryz.ntmps66
    go_wp2_with (go_at_call 92; (with_reducible refine R0.out.mono ?_); rintro e w3 ⟨rfl, hb3⟩)
    go_ret2
    exact ⟨.slice none 0 0, by rw [HE.out.1]; rfl, by rw [HE.out.2]; exact QOwn.nil _ _, hb3⟩
  | true =>
    rw [ha] at R0
    cases hb : riseB b with
    | false =>
      rw [hb] at R1
      have HE : Hid (twoR a b = 6 ∧ unionS a b = []) := Lib.hid (by rw [HX0.out]; unfold twoR; rw [ha, hb]; exact ⟨rfl, rfl⟩)
      clear ha hb
      go_enter Tryz.func66, Tryz.ntmps66
      go_wp2_with (first | (go_at_call 92; (with_reducible refine R0.out.mono ?_); rintro e w3 ⟨rfl, hb3⟩; clear R0) | (go_at_call 92; (with_reducible refine (R1.out _ hb3).mono ?_); rintro e w4 ⟨rfl, hb4⟩; clear R1))
      go_ret2
      exact ⟨.slice none 0 0, by rw [HE.out.1]; rfl, by rw [HE.out.2]; exact QOwn.nil _ _, hb3.trans (hb4.mono hb3.size)⟩
    | true =>
      rw [hb] at R1
      have HE : Hid (twoR a b = 0 ∧ unionS a b = joinR none a b) := Lib.hid (by rw [HX0.out]; unfold twoR; rw [ha, hb]; exact ⟨rfl, rfl⟩)
      clear ha hb
      go_enter Tryz.func66, Tryz.ntmps66
      go_wp2_with (first | (go_at_call 92; (with_reducible refine R0.out.mono ?_); rintro e w3 ⟨rfl, hb3⟩; clear R0) | (go_at_call 92; (with_reducible refine (R1.out _ hb3).mono ?_); rintro e w4 ⟨rfl, hb4⟩; clear R1) | (go_at_call 87; (with_reducible refine (MG.out _ (hb3.trans (hb4.mono hb3.size))).mono ?_); rintro e w5 ⟨v, rfl, ho, hb5⟩; have HX := Lib.hid (And.intro ho hb5); clear ho hb5))
      go_ret2
      exact ⟨v, by rw [HE.out.1]; rfl, by rw [HE.out.2]; exact QOwn.lessR HX.out.1 (Nat.le_trans hb3.size hb4.size), (hb3.trans (hb4.mono hb3.size)).trans (HX.out.2.mono (Nat.le_trans hb3.size hb4.size))⟩
end Go.Proofs.YthipcepgbegaiaaGreatDoor

/-
  The reference's meet, minus, union of patches: contracts. By an AI agent.
-/
namespace Go.Proofs.YthipcepgbegaiaaGreatDoor
open Go.RowKit
set_option maxRecDepth 100000
set_option maxHeartbeats 1000000 in
theorem ref23Meet_l (a b : List QuadL) (v0 v1 : Value) (w : World) (h0 : QView w v0 a) (h1 : QView w v1 b) (n0 : a.length ≤ 2097152) (n1 : b.length ≤ 2097152) :
    Calls Tryz.prog 42 #[v0, v1] w fun e w' => ∃ v, e = .returned v ∧ QOwn w.heap.size v (meetS a b) w' ∧ Below w.heap.size w w' := by
  have R0 := Lib.hid (refMeet_l a b v0 v1 w h0 h1 n0 n1)
  obtain ⟨pa, ca, rfl⟩ := h0.form'
  obtain ⟨pb, cb, rfl⟩ := h1.form'
  clear h0 h1
  go_enter Tryz.func42, Tryz.ntmps42
  go_wp2_with (go_at_call 65; (with_reducible refine R0.out.mono ?_); rintro e w3 ⟨v, rfl, ho, hb⟩; obtain ⟨va, vc, rfl⟩ := ho.view.form'; have HO := Lib.hid ho; have HB := Lib.hid hb; clear ho hb)
  go_ret
  exact ⟨_, rfl, HO.out, HB.out⟩
set_option maxHeartbeats 1000000 in
theorem ref23Minus_l (a b : List QuadL) (v0 v1 : Value) (w : World) (h0 : QView w v0 a) (h1 : QView w v1 b) (n0 : a.length ≤ 2097152) (n1 : b.length ≤ 2097152) :
    Calls Tryz.prog 40 #[v0, v1] w fun e w' => ∃ v, e = .returned v ∧ QOwn w.heap.size v (minusS a b) w' ∧ Below w.heap.size w w' := by
  have R0 := Lib.hid (refMinus_l a b v0 v1 w h0 h1 n0 n1)
  obtain ⟨pa, ca, rfl⟩ := h0.form'
  obtain ⟨pb, cb, rfl⟩ := h1.form'
  clear h0 h1
  go_enter Tryz.func40, Tryz.ntmps40
  go_wp2_with (go_at_call 64; (with_reducible refine R0.out.mono ?_); rintro e w3 ⟨v, rfl, ho, hb⟩; obtain ⟨va, vc, rfl⟩ := ho.view.form'; have HO := Lib.hid ho; have HB := Lib.hid hb; clear ho hb)
  go_ret
  exact ⟨_, rfl, HO.out, HB.out⟩
set_option maxHeartbeats 1000000 in
theorem ref23Union_l (a b : List QuadL) (v0 v1 : Value) (w : World) (h0 : QView w v0 a) (h1 : QView w v1 b) (n0 : a.length ≤ 2097152) (n1 : b.length ≤ 2097152) :
    Calls Tryz.prog 43 #[v0, v1] w fun e w' => ∃ v, e = .returned v ∧ QOwn w.heap.size v (unionS a b) w' ∧ Below w.heap.size w w' := by
  have R0 := Lib.hid (refUnion_l a b v0 v1 w h0 h1 n0 n1)
  obtain ⟨pa, ca, rfl⟩ := h0.form'
  obtain ⟨pb, cb, rfl⟩ := h1.form'
  clear h0 h1
  go_enter Tryz.func43, Tryz.ntmps43
  go_wp2_with (go_at_call 66; (with_reducible refine R0.out.mono ?_); rintro e w3 ⟨v, rfl, ho, hb⟩; obtain ⟨va, vc, rfl⟩ := ho.view.form'; have HO := Lib.hid ho; have HB := Lib.hid hb; clear ho hb)
  go_ret
  exact ⟨_, rfl, HO.out, HB.out⟩
end Go.Proofs.YthipcepgbegaiaaGreatDoor
