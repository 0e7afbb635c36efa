/-
  term.Union, Meet, Minus; patch.of, union, minus, meet: contracts. By an AI agent.
-/
import Derived.Test.YthipcepgbegaiaaGreatDoorZPatchK
import Derived.Test.YthipcepgbegaiaaGreatDoorZMergedU
namespace Go.Proofs.YthipcepgbegaiaaGreatDoor
open Go.RowKit
set_option maxRecDepth 100000

theorem mergeOK_u : MergeOK true true true := fun a b v0 v1 w h0 h1 n0 n1 => mergedU_l a b v0 v1 w h0 h1 n0 n1
theorem mergeOK_m : MergeOK false true false := fun a b v0 v1 w h0 h1 n0 n1 => mergedM_l a b v0 v1 w h0 h1 n0 n1
theorem mergeOK_d : MergeOK true false false := fun a b v0 v1 w h0 h1 n0 n1 => mergedD_l a b v0 v1 w h0 h1 n0 n1

theorem term_union_l (a b : List QuadL) (v0 v1 : Value) (w : World) (h0 : QView w v0 a) (h1 : QView w v1 b) (n0 : a.length ≤ 2097152) (n1 : b.length ≤ 2097152) :
    Calls Tryz.prog 68 #[v0, v1] w fun e w' => ∃ v, e = .returned (.tuple #[v, .int .i64 (twoE a b)]) ∧ QOwn w.heap.size v (unionS a b) w' ∧ Below w.heap.size w w' := by
  have R := Lib.hid (two_l true true true mergeOK_u a b v0 v1 w h0 h1 n0 n1)
  have HE : Hid (twoS true true true a b = unionS a b) := Lib.hid rfl
  clear h0 h1
  go_enter Tryz.func68, Tryz.ntmps68
  go_wp2_with (go_at_call 89; (with_reducible refine R.out.mono ?_); rintro e w3 ⟨v, rfl, ho, hb⟩; have HX := Lib.hid (And.intro ho hb); clear ho hb)
  go_ret2
  exact ⟨v, rfl, by rw [← HE.out]; exact HX.out.1, HX.out.2⟩
theorem of_union_l (a b : List QuadL) (v0 v1 : Value) (g : Nat) (w : World) (hg : w.cell? ⟨g, 0, none⟩ = some (.func (.func 68) #[] #[])) (h0 : QView w v0 a) (h1 : QView w v1 b) (n0 : a.length ≤ 2097152) (n1 : b.length ≤ 2097152) :
    Calls Tryz.prog 88 #[v0, v1, .pointer (some ⟨g, 0, none⟩)] w fun e w' => ∃ v, e = .returned v ∧ QOwn w.heap.size v (unionS a b) w' ∧ Below w.heap.size w w' := by
  have R := Lib.hid (term_union_l a b v0 v1 w h0 h1 n0 n1)
  clear h0 h1
  go_enter Tryz.func88, Tryz.ntmps88
  go_wp2_with (go_at_call 68; (with_reducible refine R.out.mono ?_); rintro e w3 ⟨v, rfl, ho, hb⟩; have HX := Lib.hid (And.intro ho hb); clear ho hb)
  go_ret
  exact ⟨v, rfl, HX.out.1, HX.out.2⟩

theorem term_meet_l (a b : List QuadL) (v0 v1 : Value) (w : World) (h0 : QView w v0 a) (h1 : QView w v1 b) (n0 : a.length ≤ 2097152) (n1 : b.length ≤ 2097152) :
    Calls Tryz.prog 67 #[v0, v1] w fun e w' => ∃ v, e = .returned (.tuple #[v, .int .i64 (twoE a b)]) ∧ QOwn w.heap.size v (meetS a b) w' ∧ Below w.heap.size w w' := by
  have R := Lib.hid (two_l false true false mergeOK_m a b v0 v1 w h0 h1 n0 n1)
  have HE : Hid (twoS false true false a b = meetS a b) := Lib.hid rfl
  clear h0 h1
  go_enter Tryz.func67, Tryz.ntmps67
  go_wp2_with (go_at_call 89; (with_reducible refine R.out.mono ?_); rintro e w3 ⟨v, rfl, ho, hb⟩; have HX := Lib.hid (And.intro ho hb); clear ho hb)
  go_ret2
  exact ⟨v, rfl, by rw [← HE.out]; exact HX.out.1, HX.out.2⟩
theorem of_meet_l (a b : List QuadL) (v0 v1 : Value) (g : Nat) (w : World) (hg : w.cell? ⟨g, 0, none⟩ = some (.func (.func 67) #[] #[])) (h0 : QView w v0 a) (h1 : QView w v1 b) (n0 : a.length ≤ 2097152) (n1 : b.length ≤ 2097152) :
    Calls Tryz.prog 88 #[v0, v1, .pointer (some ⟨g, 0, none⟩)] w fun e w' => ∃ v, e = .returned v ∧ QOwn w.heap.size v (meetS a b) w' ∧ Below w.heap.size w w' := by
  have R := Lib.hid (term_meet_l a b v0 v1 w h0 h1 n0 n1)
  clear h0 h1
  go_enter Tryz.func88, Tryz.ntmps88
  go_wp2_with (go_at_call 67; (with_reducible refine R.out.mono ?_); rintro e w3 ⟨v, rfl, ho, hb⟩; have HX := Lib.hid (And.intro ho hb); clear ho hb)
  go_ret
  exact ⟨v, rfl, HX.out.1, HX.out.2⟩

theorem term_minus_l (a b : List QuadL) (v0 v1 : Value) (w : World) (h0 : QView w v0 a) (h1 : QView w v1 b) (n0 : a.length ≤ 2097152) (n1 : b.length ≤ 2097152) :
    Calls Tryz.prog 61 #[v0, v1] w fun e w' => ∃ v, e = .returned (.tuple #[v, .int .i64 (twoE a b)]) ∧ QOwn w.heap.size v (minusS a b) w' ∧ Below w.heap.size w w' := by
  have R := Lib.hid (two_l true false false mergeOK_d a b v0 v1 w h0 h1 n0 n1)
  have HE : Hid (twoS true false false a b = minusS a b) := Lib.hid rfl
  clear h0 h1
  go_enter Tryz.func61, Tryz.ntmps61
  go_wp2_with (go_at_call 89; (with_reducible refine R.out.mono ?_); rintro e w3 ⟨v, rfl, ho, hb⟩; have HX := Lib.hid (And.intro ho hb); clear ho hb)
  go_ret2
  exact ⟨v, rfl, by rw [← HE.out]; exact HX.out.1, HX.out.2⟩
theorem of_minus_l (a b : List QuadL) (v0 v1 : Value) (g : Nat) (w : World) (hg : w.cell? ⟨g, 0, none⟩ = some (.func (.func 61) #[] #[])) (h0 : QView w v0 a) (h1 : QView w v1 b) (n0 : a.length ≤ 2097152) (n1 : b.length ≤ 2097152) :
    Calls Tryz.prog 88 #[v0, v1, .pointer (some ⟨g, 0, none⟩)] w fun e w' => ∃ v, e = .returned v ∧ QOwn w.heap.size v (minusS a b) w' ∧ Below w.heap.size w w' := by
  have R := Lib.hid (term_minus_l a b v0 v1 w h0 h1 n0 n1)
  clear h0 h1
  go_enter Tryz.func88, Tryz.ntmps88
  go_wp2_with (go_at_call 61; (with_reducible refine R.out.mono ?_); rintro e w3 ⟨v, rfl, ho, hb⟩; have HX := Lib.hid (And.intro ho hb); clear ho hb)
  go_ret
  exact ⟨v, rfl, HX.out.1, HX.out.2⟩

theorem of_l (f : Nat) (w : World) : Calls Tryz.prog 60 #[.func (.func f) #[] #[]] w fun e w' => e = .returned (.func (.func 88) #[] #[.pointer (some ⟨w.heap.size, 0, none⟩)]) ∧ ∃ T, w' = w.alloc (.cells #[.func (.func f) #[] #[]] T) := by
  go_enter Tryz.func60, Tryz.ntmps60
  go_wp2_with fail
  go_ret
  exact ⟨rfl, _, rfl⟩

theorem patch_union_l (a b : List QuadL) (v0 v1 : Value) (w : World) (h0 : QView w v0 a) (h1 : QView w v1 b) (n0 : a.length ≤ 2097152) (n1 : b.length ≤ 2097152) :
    Calls Tryz.prog 46 #[v0, v1] w fun e w' => ∃ v, e = .returned v ∧ QOwn w.heap.size v (unionS a b) w' ∧ Below w.heap.size w w' := by
  have R := Lib.hid (fun (T : TypeId) => of_union_l a b v0 v1 w.heap.size (w.alloc (.cells #[.func (.func 68) #[] #[]] T)) (by rw [World.cell?_alloc_new]; rfl) (h0.below ((Below.refl _ _).alloc (Nat.le_refl _) _)) (h1.below ((Below.refl _ _).alloc (Nat.le_refl _) _)) n0 n1)
  have O := Lib.hid (of_l 68 w)
  clear h0 h1
  go_enter Tryz.func46, Tryz.ntmps46
  go_wp2_with (first | (go_at_call 60; (with_reducible refine O.out.mono ?_); rintro e w2 ⟨rfl, T, rfl⟩) | (go_at_call 88; (with_reducible refine (R.out _).mono ?_); rintro e w3 ⟨v, rfl, ho, hb⟩; have HX := Lib.hid (And.intro ho hb); clear ho hb))
  go_ret
  exact ⟨v, rfl, HX.out.1.less (by simp), ((Below.refl _ _).alloc (Nat.le_refl _) _).trans (HX.out.2.mono (by simp))⟩

theorem patch_minus_l (a b : List QuadL) (v0 v1 : Value) (w : World) (h0 : QView w v0 a) (h1 : QView w v1 b) (n0 : a.length ≤ 2097152) (n1 : b.length ≤ 2097152) :
    Calls Tryz.prog 38 #[v0, v1] w fun e w' => ∃ v, e = .returned v ∧ QOwn w.heap.size v (minusS a b) w' ∧ Below w.heap.size w w' := by
  have R := Lib.hid (fun (T : TypeId) => of_minus_l a b v0 v1 w.heap.size (w.alloc (.cells #[.func (.func 61) #[] #[]] T)) (by rw [World.cell?_alloc_new]; rfl) (h0.below ((Below.refl _ _).alloc (Nat.le_refl _) _)) (h1.below ((Below.refl _ _).alloc (Nat.le_refl _) _)) n0 n1)
  have O := Lib.hid (of_l 61 w)
  clear h0 h1
  go_enter Tryz.func38, Tryz.ntmps38
  go_wp2_with (first | (go_at_call 60; (with_reducible refine O.out.mono ?_); rintro e w2 ⟨rfl, T, rfl⟩) | (go_at_call 88; (with_reducible refine (R.out _).mono ?_); rintro e w3 ⟨v, rfl, ho, hb⟩; have HX := Lib.hid (And.intro ho hb); clear ho hb))
  go_ret
  exact ⟨v, rfl, HX.out.1.less (by simp), ((Below.refl _ _).alloc (Nat.le_refl _) _).trans (HX.out.2.mono (by simp))⟩

theorem patch_meet_l (a b : List QuadL) (v0 v1 : Value) (w : World) (h0 : QView w v0 a) (h1 : QView w v1 b) (n0 : a.length ≤ 2097152) (n1 : b.length ≤ 2097152) :
    Calls Tryz.prog 44 #[v0, v1] w fun e w' => e = .returned (.bool (decide (0 < (meetS a b).length))) ∧ Below w.heap.size w w' := by
  have R := Lib.hid (fun (T : TypeId) => of_meet_l a b v0 v1 w.heap.size (w.alloc (.cells #[.func (.func 67) #[] #[]] T)) (by rw [World.cell?_alloc_new]; rfl) (h0.below ((Below.refl _ _).alloc (Nat.le_refl _) _)) (h1.below ((Below.refl _ _).alloc (Nat.le_refl _) _)) n0 n1)
  have O := Lib.hid (of_l 67 w)
  clear h0 h1
  go_enter Tryz.func44, Tryz.ntmps44
  go_wp2_with (first | (go_at_call 60; (with_reducible refine O.out.mono ?_); rintro e w2 ⟨rfl, T, rfl⟩) | (go_at_call 88; (with_reducible refine (R.out _).mono ?_); rintro e w3 ⟨v, rfl, ho, hb⟩; obtain ⟨pa, ca, rfl, hca, _⟩ := ho.view; have HX := Lib.hid hb; clear ho hb))
  go_ret
  exact ⟨ret_bool (by simp), ((Below.refl _ _).alloc (Nat.le_refl _) _).trans (HX.out.mono (by simp))⟩

theorem set_ok : SetOK := ⟨patch_union_l, patch_minus_l, patch_meet_l⟩
end Go.Proofs.YthipcepgbegaiaaGreatDoor
