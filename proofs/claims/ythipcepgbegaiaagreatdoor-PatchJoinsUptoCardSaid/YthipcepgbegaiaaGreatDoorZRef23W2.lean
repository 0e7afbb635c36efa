/-
  tesseraref23.Over: contracts. By an AI agent.
-/
import Derived.Test.YthipcepgbegaiaaGreatDoorZMorePatchJoins
import Derived.Test.YthipcepgbegaiaaGreatDoorZPatchW2
import Derived.Test.YthipcepgbegaiaaGreatDoorZRef23W1
import Derived.Test.YthipcepgbegaiaaGreatDoorZLaw23
import Derived.Test.YthipcepgbegaiaaGreatDoorZInvert
import Derived.Deep.Cut
import Derived.Test.YthipcepgbegaiaaGreatDoorZPatchW4
namespace Go.Proofs.YthipcepgbegaiaaGreatDoor
open Go.RowKit
set_option maxRecDepth 100000
set_option maxHeartbeats 4000000 in
theorem ref23Over_l (p q : PatchL) (mv pv mv2 pv2 : Value) (w : World) (h : PView w mv pv p) (h2 : PView w mv2 pv2 q) (hN : NeatP p) (hN2 : NeatP q) :
    Calls Tryz.prog 27 #[.agg #[mv, pv], .agg #[mv2, pv2]] w fun e w' => ∃ rm rp, e = .returned (.tuple #[.agg #[rm, rp], .int .i64 (overN p q).2]) ∧ PFresh w.heap.size rm rp (overN p q).1 w' ∧ Below w.heap.size w w' := by
  have TW := Lib.hid (fun (u : World) (hb : Below w.heap.size w u) => ref23Two_l p q mv pv mv2 pv2 u (h.below hb) (h2.below hb) hN hN2)
  have ME1 := Lib.hid (fun (u : World) (hb : Below w.heap.size w u) => ref23Meet_l p.minus q.plus mv pv2 u (h.1.below hb) (h2.2.below hb) (by have := hN.1.1; omega) (by have := hN2.2.1; omega))
  have ME2 := Lib.hid (fun (u : World) (hb : Below w.heap.size w u) => ref23Meet_l p.plus q.minus pv mv2 u (h.2.below hb) (h2.1.below hb) (by have := hN.2.1; omega) (by have := hN2.1.1; omega))
  have M1 := Lib.hid (fun (u : World) (hb : Below w.heap.size w u) => ref23Minus_l p.minus q.minus mv mv2 u (h.1.below hb) (h2.1.below hb) (by have := hN.1.1; omega) (by have := hN2.1.1; omega))
  have M2 := Lib.hid (fun (u : World) (hb : Below w.heap.size w u) => ref23Minus_l p.plus q.plus pv pv2 u (h.2.below hb) (h2.2.below hb) (by have := hN.2.1; omega) (by have := hN2.2.1; omega))
  have HD : Hid (overN p q = if firstN (checkN p) (checkN q) ≠ 0 then (noPatch, firstN (checkN p) (checkN q)) else if ¬ (meetS p.minus q.plus = [] ∧ meetS p.plus q.minus = []) then (noPatch, 230) else (⟨minusS p.minus q.minus, minusS p.plus q.plus⟩, 0)) := Lib.hid rfl
  obtain ⟨pm, cm, rfl⟩ := h.1.form
  obtain ⟨pp, cp, rfl⟩ := h.2.form
  obtain ⟨qm, dm, rfl⟩ := h2.1.form
  obtain ⟨qp, dp, rfl⟩ := h2.2.form
  have HB0 : Hid (Below w.heap.size w (((w.alloc (.cells #[.slice pm p.minus.length cm, .slice pp p.plus.length cp] 24)).alloc (.cells #[.slice qm q.minus.length dm, .slice qp q.plus.length dp] 24)).alloc (.cells #[.slice none 0 0, .slice none 0 0] 24))) := Lib.hid ((((Below.refl _ _).alloc (Nat.le_refl _) _).alloc (by simp) _).alloc (by simp; omega) _)
  have SB : Hid (∀ w', Below (((w.alloc (.cells #[.slice pm p.minus.length cm, .slice pp p.plus.length cp] 24)).alloc (.cells #[.slice qm q.minus.length dm, .slice qp q.plus.length dp] 24)).alloc (.cells #[.slice none 0 0, .slice none 0 0] 24)).heap.size (((w.alloc (.cells #[.slice pm p.minus.length cm, .slice pp p.plus.length cp] 24)).alloc (.cells #[.slice qm q.minus.length dm, .slice qp q.plus.length dp] 24)).alloc (.cells #[.slice none 0 0, .slice none 0 0] 24)) w' → w'.cell? ⟨w.heap.size, 0, none⟩ = some (.slice pm p.minus.length cm) ∧ w'.cell? ⟨w.heap.size, 1, none⟩ = some (.slice pp p.plus.length cp) ∧ w'.cell? ⟨w.heap.size + 1, 0, none⟩ = some (.slice qm q.minus.length dm) ∧ w'.cell? ⟨w.heap.size + 1, 1, none⟩ = some (.slice qp q.plus.length dp) ∧ w'.cell? ⟨w.heap.size + 1 + 1, 0, none⟩ = some (.slice none 0 0) ∧ w'.cell? ⟨w.heap.size + 1 + 1, 1, none⟩ = some (.slice none 0 0) ∧ w'.frozen? ⟨w.heap.size + 1 + 1, 0, none⟩ = false ∧ w'.frozen? ⟨w.heap.size + 1 + 1, 1, none⟩ = false) := Lib.hid (fun w' h => by
    obtain ⟨h1, h2, h3⟩ := held_3 h
    exact ⟨h1.c0, h1.c1, h2.c0, h2.c1, h3.c0, h3.c1, h3.f0, h3.f1⟩)
  have HSZ : Hid (w.heap.size + 1 + 1 < (((w.alloc (.cells #[.slice pm p.minus.length cm, .slice pp p.plus.length cp] 24)).alloc (.cells #[.slice qm q.minus.length dm, .slice qp q.plus.length dp] 24)).alloc (.cells #[.slice none 0 0, .slice none 0 0] 24)).heap.size) := Lib.hid (by simp)
  clear h h2 hN hN2
  obtain ⟨n, hn⟩ : ∃ n, firstN (checkN p) (checkN q) = n := ⟨_, rfl⟩
  rw [hn] at HD TW
  clear hn
  obtain ⟨W, hW⟩ : ∃ W, ((w.alloc (.cells #[.slice pm p.minus.length cm, .slice pp p.plus.length cp] 24)).alloc (.cells #[.slice qm q.minus.length dm, .slice qp q.plus.length dp] 24)).alloc (.cells #[.slice none 0 0, .slice none 0 0] 24) = W := ⟨_, rfl⟩
  rw [hW] at HB0 SB HSZ
  have HB7 : Hid (Below W.heap.size W W) := Lib.hid (Below.refl _ _)
  obtain ⟨c0, c1, c2, c3, c4, c5, f4, f5⟩ := SB.out _ HB7.out
  by_cases n0 : n = 0
  · have q9 := (keqR n0).2
    have HD2 : Hid (overN p q = if ¬ (meetS p.minus q.plus = [] ∧ meetS p.plus q.minus = []) then (noPatch, 230) else (⟨minusS p.minus q.minus, minusS p.plus q.plus⟩, 0)) := Lib.hid (by
      rw [HD.out, if_neg (fun h => h n0)])
    clear HD n0
    by_cases h1 : 0 < (meetS p.minus q.plus).length
    · as_aux_lemma =>
      have HE : Hid (overN p q = (noPatch, 230)) := Lib.hid (by rw [HD2.out, if_pos (fun h => by rw [h.1] at h1; simp at h1)])
      have t9 : decide ((0 : Int) < ((meetS p.minus q.plus).length : Int)) = true := decide_eq_true (by omega)
      have t9n : decide (0 < (meetS p.minus q.plus).length) = true := decide_eq_true (by omega)
      clear HD2
      go_enter Tryz.func27, Tryz.ntmps27
      go_wp2_with (first | (go_at_call 47; (with_reducible refine (TW.out _ ?hb).mono ?_); (case hb => exact HB0.out.trans (HB7.out.mono HB0.out.size)); rintro e w3 ⟨rfl, hb3⟩; have HB8 := Lib.hid (HB7.out.trans (hb3.mono HB7.out.size)); clear HB7 hb3; have HB7 := HB8; clear HB8; clear c0 c1 c2 c3 c4 c5 f4 f5; obtain ⟨c0, c1, c2, c3, c4, c5, f4, f5⟩ := SB.out _ HB7.out) | (go_at_call 42; (with_reducible refine (ME1.out _ ?hb).mono ?_); (case hb => exact HB0.out.trans (HB7.out.mono HB0.out.size)); rintro e w6 ⟨vv, rfl, ho, hb6⟩; obtain ⟨qa6, qc6, rfl⟩ := ho.view.form; clear ho; have HB8 := Lib.hid (HB7.out.trans (hb6.mono HB7.out.size)); clear HB7 hb6; have HB7 := HB8; clear HB8; clear c0 c1 c2 c3 c4 c5 f4 f5; obtain ⟨c0, c1, c2, c3, c4, c5, f4, f5⟩ := SB.out _ HB7.out))
      refine bodyPost_ret (v := .tuple #[.agg #[.slice none 0 0, .slice none 0 0], .int .i64 230]) (by simp [results, Tryz.results27, go_sem, c4, c5]) rfl ?_
      exact ⟨_, _, by rw [HE.out], by rw [HE.out]; exact PFresh.nil _ _, ((HB0.out.trans (HB7.out.mono HB0.out.size)).setCell (p := ⟨w.heap.size + 1 + 1, 0, none⟩) (by simp only; omega) _).setCell (p := ⟨w.heap.size + 1 + 1, 1, none⟩) (by simp only; omega) _⟩
    have t9 : decide ((0 : Int) < ((meetS p.minus q.plus).length : Int)) = false := decide_eq_false (by omega)
    have t9n : decide (0 < (meetS p.minus q.plus).length) = false := decide_eq_false (by omega)
    by_cases h2 : 0 < (meetS p.plus q.minus).length
    · as_aux_lemma =>
      have HE : Hid (overN p q = (noPatch, 230)) := Lib.hid (by rw [HD2.out, if_pos (fun h => by rw [h.2] at h2; simp at h2)])
      have t10 : decide ((0 : Int) < ((meetS p.plus q.minus).length : Int)) = true := decide_eq_true (by omega)
      have t10n : decide (0 < (meetS p.plus q.minus).length) = true := decide_eq_true (by omega)
      clear HD2 h1
      go_enter Tryz.func27, Tryz.ntmps27
      go_wp2_with (first | (go_at_call 47; (with_reducible refine (TW.out _ ?hb).mono ?_); (case hb => exact HB0.out.trans (HB7.out.mono HB0.out.size)); rintro e w3 ⟨rfl, hb3⟩; have HB8 := Lib.hid (HB7.out.trans (hb3.mono HB7.out.size)); clear HB7 hb3; have HB7 := HB8; clear HB8; clear c0 c1 c2 c3 c4 c5 f4 f5; obtain ⟨c0, c1, c2, c3, c4, c5, f4, f5⟩ := SB.out _ HB7.out) | (go_at_call 42; (with_reducible refine (ME1.out _ ?hb).mono ?_); (case hb => exact HB0.out.trans (HB7.out.mono HB0.out.size)); rintro e w6 ⟨vv, rfl, ho, hb6⟩; obtain ⟨qa6, qc6, rfl⟩ := ho.view.form; clear ho; have HB8 := Lib.hid (HB7.out.trans (hb6.mono HB7.out.size)); clear HB7 hb6; have HB7 := HB8; clear HB8; clear c0 c1 c2 c3 c4 c5 f4 f5; obtain ⟨c0, c1, c2, c3, c4, c5, f4, f5⟩ := SB.out _ HB7.out) | (go_at_call 42; (with_reducible refine (ME2.out _ ?hb).mono ?_); (case hb => exact HB0.out.trans (HB7.out.mono HB0.out.size)); rintro e w7 ⟨vv, rfl, ho, hb7⟩; obtain ⟨qa7, qc7, rfl⟩ := ho.view.form; clear ho; have HB8 := Lib.hid (HB7.out.trans (hb7.mono HB7.out.size)); clear HB7 hb7; have HB7 := HB8; clear HB8; clear c0 c1 c2 c3 c4 c5 f4 f5; obtain ⟨c0, c1, c2, c3, c4, c5, f4, f5⟩ := SB.out _ HB7.out))
      refine bodyPost_ret (v := .tuple #[.agg #[.slice none 0 0, .slice none 0 0], .int .i64 230]) (by simp [results, Tryz.results27, go_sem, c4, c5]) rfl ?_
      exact ⟨_, _, by rw [HE.out], by rw [HE.out]; exact PFresh.nil _ _, ((HB0.out.trans (HB7.out.mono HB0.out.size)).setCell (p := ⟨w.heap.size + 1 + 1, 0, none⟩) (by simp only; omega) _).setCell (p := ⟨w.heap.size + 1 + 1, 1, none⟩) (by simp only; omega) _⟩
    have t10 : decide ((0 : Int) < ((meetS p.plus q.minus).length : Int)) = false := decide_eq_false (by omega)
    have t10n : decide (0 < (meetS p.plus q.minus).length) = false := decide_eq_false (by omega)
    have HE : Hid (overN p q = (⟨minusS p.minus q.minus, minusS p.plus q.plus⟩, 0)) := Lib.hid (by rw [HD2.out, if_neg (fun h => h ⟨List.eq_nil_of_length_eq_zero (by omega), List.eq_nil_of_length_eq_zero (by omega)⟩)])
    clear HD2 h1 h2
    as_aux_lemma =>
      go_enter Tryz.func27, Tryz.ntmps27
      have SB4 : Hid (∀ w', Below W.heap.size W w' → w'.cell? ⟨w.heap.size, 0, none⟩ = some (.slice pm p.minus.length cm) ∧ w'.cell? ⟨w.heap.size, 1, none⟩ = some (.slice pp p.plus.length cp) ∧ w'.cell? ⟨w.heap.size + 1, 0, none⟩ = some (.slice qm q.minus.length dm) ∧ w'.cell? ⟨w.heap.size + 1, 1, none⟩ = some (.slice qp q.plus.length dp)) := Lib.hid (fun w' h => by
        obtain ⟨z0, z1, z2, z3, _⟩ := SB.out w' h
        exact ⟨z0, z1, z2, z3⟩)
      go_upto_region 6 with (first | (go_at_call 47; (with_reducible refine (TW.out _ ?hb).mono ?_); (case hb => exact HB0.out.trans (HB7.out.mono HB0.out.size)); rintro e w3 ⟨rfl, hb3⟩; have HB8 := Lib.hid (HB7.out.trans (hb3.mono HB7.out.size)); clear HB7 hb3; have HB7 := HB8; clear HB8; clear c0 c1 c2 c3 c4 c5 f4 f5; obtain ⟨c0, c1, c2, c3, c4, c5, f4, f5⟩ := SB.out _ HB7.out) | (go_at_call 42; (with_reducible refine (ME1.out _ ?hb).mono ?_); (case hb => exact HB0.out.trans (HB7.out.mono HB0.out.size)); rintro e w6 ⟨vv, rfl, ho, hb6⟩; obtain ⟨qa6, qc6, rfl⟩ := ho.view.form; clear ho; have HB8 := Lib.hid (HB7.out.trans (hb6.mono HB7.out.size)); clear HB7 hb6; have HB7 := HB8; clear HB8; clear c0 c1 c2 c3 c4 c5 f4 f5; obtain ⟨c0, c1, c2, c3, c4, c5, f4, f5⟩ := SB.out _ HB7.out) | (go_at_call 42; (with_reducible refine (ME2.out _ ?hb).mono ?_); (case hb => exact HB0.out.trans (HB7.out.mono HB0.out.size)); rintro e w7 ⟨vv, rfl, ho, hb7⟩; obtain ⟨qa7, qc7, rfl⟩ := ho.view.form; clear ho; have HB8 := Lib.hid (HB7.out.trans (hb7.mono HB7.out.size)); clear HB7 hb7; have HB7 := HB8; clear HB8; clear c0 c1 c2 c3 c4 c5 f4 f5; obtain ⟨c0, c1, c2, c3, c4, c5, f4, f5⟩ := SB.out _ HB7.out))
      clear c0 c1 c2 c3 c4 c5 f4 f5
      have HB9 := Lib.hid (HB7.out.trans ((below_drewN _ 1).mono HB7.out.size))
      clear HB7
      have HB7 := HB9
      clear HB9
      go_region_held3 (fun w' => w'.cell? ⟨w.heap.size, 0, none⟩ = some (.slice pm p.minus.length cm) ∧ w'.cell? ⟨w.heap.size, 1, none⟩ = some (.slice pp p.plus.length cp) ∧ w'.cell? ⟨w.heap.size + 1, 0, none⟩ = some (.slice qm q.minus.length dm) ∧ w'.cell? ⟨w.heap.size + 1, 1, none⟩ = some (.slice qp q.plus.length dp)) (first | exact SB4.out _ HB7.out | exact four_set (SB4.out _ HB7.out) | exact four_set (four_set (SB4.out _ HB7.out))) (first | (go_at_call 40; (with_reducible refine (M1.out _ ?hb).mono ?_); (case hb => exact HB0.out.trans (HB7.out.mono HB0.out.size)); rintro e w8 ⟨vv, rfl, ho, hb8⟩; obtain ⟨qa8, qc8, rfl⟩ := ho.view.form; have HO8 := Lib.hid ho; have HX8 := Lib.hid hb8; have HP8 := HB7; have HB8 := Lib.hid (HB7.out.trans (hb8.mono HB7.out.size)); clear HB7 ho hb8; have HB7 := HB8; clear HB8) | (go_at_call 40; (with_reducible refine (M2.out _ ?hb).mono ?_); (case hb => exact HB0.out.trans (HB7.out.mono HB0.out.size)); rintro e w9 ⟨vv, rfl, ho, hb9⟩; obtain ⟨qa9, qc9, rfl⟩ := ho.view.form; have HO9 := Lib.hid ho; have HX9 := Lib.hid hb9; have HP9 := HB7; have HB8 := Lib.hid (HB7.out.trans (hb9.mono HB7.out.size)); clear HB7 ho hb9; have HB7 := HB8; clear HB8; obtain ⟨_, _, _, _, c4, c5, f4, f5⟩ := SB.out _ HB7.out))
      go_wp2_with fail
      refine bodyPost_ret (v := .tuple #[.agg #[.slice qa8 (minusS p.minus q.minus).length qc8, .slice qa9 (minusS p.plus q.plus).length qc9], .int .i64 0]) (by simp [results, Tryz.results27, go_sem, c4, c5]) rfl ?_
      have sz := Nat.lt_of_lt_of_le HSZ.out HP8.out.size
      obtain ⟨x1, x2⟩ := patch_fin3 (w := w) (g := w.heap.size + 1 + 1) (by omega) HO8.out sz (Below.refl _ _) HO9.out HX9.out (Below.refl _ _) (HB0.out.trans (HB7.out.mono HB0.out.size)) (Nat.le_trans (by omega) (Nat.le_of_lt sz)) HX8.out.size
      exact ⟨_, _, by rw [HE.out], by rw [HE.out]; exact x1, x2⟩
  · as_aux_lemma =>
    have q9 := (kneR n0).2
    have HE : Hid (overN p q = (noPatch, n)) := Lib.hid (by rw [HD.out, if_pos n0])
    clear HD n0
    go_enter Tryz.func27, Tryz.ntmps27
    go_wp2_with (go_at_call 47; (with_reducible refine (TW.out _ ?hb).mono ?_); (case hb => exact HB0.out.trans (HB7.out.mono HB0.out.size)); rintro e w3 ⟨rfl, hb3⟩; have HB8 := Lib.hid (HB7.out.trans (hb3.mono HB7.out.size)); clear HB7 hb3; have HB7 := HB8; clear HB8; clear c0 c1 c2 c3 c4 c5 f4 f5; obtain ⟨c0, c1, c2, c3, c4, c5, f4, f5⟩ := SB.out _ HB7.out)
    refine bodyPost_ret (v := .tuple #[.agg #[.slice none 0 0, .slice none 0 0], .int .i64 n]) (by simp [results, Tryz.results27, go_sem, c4, c5]) rfl ?_
    exact ⟨_, _, by rw [HE.out], by rw [HE.out]; exact PFresh.nil _ _, ((HB0.out.trans (HB7.out.mono HB0.out.size)).setCell (p := ⟨w.heap.size + 1 + 1, 0, none⟩) (by simp only; omega) _).setCell (p := ⟨w.heap.size + 1 + 1, 1, none⟩) (by simp only; omega) _⟩
end Go.Proofs.YthipcepgbegaiaaGreatDoor

/-
  tesseraref23.Compose: contracts. By an AI agent.
-/
namespace Go.Proofs.YthipcepgbegaiaaGreatDoor
open Go.RowKit
set_option maxRecDepth 100000
set_option maxHeartbeats 4000000 in
theorem ref23Compose_l (p q : PatchL) (mv pv mv2 pv2 : Value) (w : World) (h : PView w mv pv p) (h2 : PView w mv2 pv2 q) (hN : NeatP p) (hN2 : NeatP q) :
    Calls Tryz.prog 25 #[.agg #[mv, pv], .agg #[mv2, pv2]] w fun e w' => ∃ rm rp, e = .returned (.tuple #[.agg #[rm, rp], .int .i64 (composeN p q).2]) ∧ PFresh w.heap.size rm rp (composeN p q).1 w' ∧ Below w.heap.size w w' := by
  have TW := Lib.hid (fun (u : World) (hb : Below w.heap.size w u) => ref23Two_l p q mv pv mv2 pv2 u (h.below hb) (h2.below hb) hN hN2)
  have ME1 := Lib.hid (fun (u : World) (hb : Below w.heap.size w u) => ref23Meet_l p.minus q.minus mv mv2 u (h.1.below hb) (h2.1.below hb) (by have := hN.1.1; omega) (by have := hN2.1.1; omega))
  have ME2 := Lib.hid (fun (u : World) (hb : Below w.heap.size w u) => ref23Meet_l p.plus q.plus pv pv2 u (h.2.below hb) (h2.2.below hb) (by have := hN.2.1; omega) (by have := hN2.2.1; omega))
  have M1 := Lib.hid (fun (u : World) (hb : Below w.heap.size w u) => ref23Minus_l p.minus q.plus mv pv2 u (h.1.below hb) (h2.2.below hb) (by have := hN.1.1; omega) (by have := hN2.2.1; omega))
  have M2 := Lib.hid (fun (u : World) (hb : Below w.heap.size w u) => ref23Minus_l q.minus p.plus mv2 pv u (h2.1.below hb) (h.2.below hb) (by have := hN2.1.1; omega) (by have := hN.2.1; omega))
  have M3 := Lib.hid (fun (u : World) (hb : Below w.heap.size w u) => ref23Minus_l p.plus q.minus pv mv2 u (h.2.below hb) (h2.1.below hb) (by have := hN.2.1; omega) (by have := hN2.1.1; omega))
  have M4 := Lib.hid (fun (u : World) (hb : Below w.heap.size w u) => ref23Minus_l q.plus p.minus pv2 mv u (h2.2.below hb) (h.1.below hb) (by have := hN2.2.1; omega) (by have := hN.1.1; omega))
  have L1 : Hid ((minusS p.minus q.plus).length ≤ 524288) := Lib.hid hN.1.minusS
  have L2 : Hid ((minusS q.minus p.plus).length ≤ 524288) := Lib.hid hN2.1.minusS
  have L3 : Hid ((minusS p.plus q.minus).length ≤ 524288) := Lib.hid hN.2.minusS
  have L4 : Hid ((minusS q.plus p.minus).length ≤ 524288) := Lib.hid hN2.2.minusS
  have U1 : (unionS (minusS p.minus q.plus) (minusS q.minus p.plus)).length ≤ 1048576 := by
    have := unionS_len (minusS p.minus q.plus) (minusS q.minus p.plus)
    have := L1.out
    have := L2.out
    omega
  have U2 : (unionS (minusS p.plus q.minus) (minusS q.plus p.minus)).length ≤ 1048576 := by
    have := unionS_len (minusS p.plus q.minus) (minusS q.plus p.minus)
    have := L3.out
    have := L4.out
    omega
  have t1 : decide ((1048576 : Int) < ((unionS (minusS p.minus q.plus) (minusS q.minus p.plus)).length : Int)) = false := decide_eq_false (by omega)
  have t2 : decide ((1048576 : Int) < ((unionS (minusS p.plus q.minus) (minusS q.plus p.minus)).length : Int)) = false := decide_eq_false (by omega)
  have UN1 := Lib.hid (fun (u : World) (hb : Below w.heap.size w u) (v v' : Value) (hv : QView u v (minusS p.minus q.plus)) (hv' : QView u v' (minusS q.minus p.plus)) => ref23Union_l (minusS p.minus q.plus) (minusS q.minus p.plus) v v' u hv hv' (by have := L1.out; omega) (by have := L2.out; omega))
  have UN2 := Lib.hid (fun (u : World) (hb : Below w.heap.size w u) (v v' : Value) (hv : QView u v (minusS p.plus q.minus)) (hv' : QView u v' (minusS q.plus p.minus)) => ref23Union_l (minusS p.plus q.minus) (minusS q.plus p.minus) v v' u hv hv' (by have := L3.out; omega) (by have := L4.out; omega))
  have HD : Hid (composeN p q = if firstN (checkN p) (checkN q) ≠ 0 then (noPatch, firstN (checkN p) (checkN q)) else if ¬ (meetS p.minus q.minus = [] ∧ meetS p.plus q.plus = []) then (noPatch, 230) else if 1048576 < (unionS (minusS p.minus q.plus) (minusS q.minus p.plus)).length ∨ 1048576 < (unionS (minusS p.plus q.minus) (minusS q.plus p.minus)).length then (noPatch, 2) else (⟨unionS (minusS p.minus q.plus) (minusS q.minus p.plus), unionS (minusS p.plus q.minus) (minusS q.plus p.minus)⟩, 0)) := Lib.hid rfl
  obtain ⟨pm, cm, rfl⟩ := h.1.form
  obtain ⟨pp, cp, rfl⟩ := h.2.form
  obtain ⟨qm, dm, rfl⟩ := h2.1.form
  obtain ⟨qp, dp, rfl⟩ := h2.2.form
  have HB0 : Hid (Below w.heap.size w (((w.alloc (.cells #[.slice pm p.minus.length cm, .slice pp p.plus.length cp] 24)).alloc (.cells #[.slice qm q.minus.length dm, .slice qp q.plus.length dp] 24)).alloc (.cells #[.slice none 0 0, .slice none 0 0] 24))) := Lib.hid ((((Below.refl _ _).alloc (Nat.le_refl _) _).alloc (by simp) _).alloc (by simp; omega) _)
  have SB : Hid (∀ w', Below (((w.alloc (.cells #[.slice pm p.minus.length cm, .slice pp p.plus.length cp] 24)).alloc (.cells #[.slice qm q.minus.length dm, .slice qp q.plus.length dp] 24)).alloc (.cells #[.slice none 0 0, .slice none 0 0] 24)).heap.size (((w.alloc (.cells #[.slice pm p.minus.length cm, .slice pp p.plus.length cp] 24)).alloc (.cells #[.slice qm q.minus.length dm, .slice qp q.plus.length dp] 24)).alloc (.cells #[.slice none 0 0, .slice none 0 0] 24)) w' → w'.cell? ⟨w.heap.size, 0, none⟩ = some (.slice pm p.minus.length cm) ∧ w'.cell? ⟨w.heap.size, 1, none⟩ = some (.slice pp p.plus.length cp) ∧ w'.cell? ⟨w.heap.size + 1, 0, none⟩ = some (.slice qm q.minus.length dm) ∧ w'.cell? ⟨w.heap.size + 1, 1, none⟩ = some (.slice qp q.plus.length dp) ∧ w'.cell? ⟨w.heap.size + 1 + 1, 0, none⟩ = some (.slice none 0 0) ∧ w'.cell? ⟨w.heap.size + 1 + 1, 1, none⟩ = some (.slice none 0 0) ∧ w'.frozen? ⟨w.heap.size + 1 + 1, 0, none⟩ = false ∧ w'.frozen? ⟨w.heap.size + 1 + 1, 1, none⟩ = false) := Lib.hid (fun w' h => by
    obtain ⟨h1, h2, h3⟩ := held_3 h
    exact ⟨h1.c0, h1.c1, h2.c0, h2.c1, h3.c0, h3.c1, h3.f0, h3.f1⟩)
  have HSZ : Hid (w.heap.size + 1 + 1 < (((w.alloc (.cells #[.slice pm p.minus.length cm, .slice pp p.plus.length cp] 24)).alloc (.cells #[.slice qm q.minus.length dm, .slice qp q.plus.length dp] 24)).alloc (.cells #[.slice none 0 0, .slice none 0 0] 24)).heap.size) := Lib.hid (by simp)
  clear h h2 hN hN2
  obtain ⟨n, hn⟩ : ∃ n, firstN (checkN p) (checkN q) = n := ⟨_, rfl⟩
  rw [hn] at HD TW
  clear hn
  obtain ⟨W, hW⟩ : ∃ W, ((w.alloc (.cells #[.slice pm p.minus.length cm, .slice pp p.plus.length cp] 24)).alloc (.cells #[.slice qm q.minus.length dm, .slice qp q.plus.length dp] 24)).alloc (.cells #[.slice none 0 0, .slice none 0 0] 24) = W := ⟨_, rfl⟩
  rw [hW] at HB0 SB HSZ
  have HB7 : Hid (Below W.heap.size W W) := Lib.hid (Below.refl _ _)
  obtain ⟨c0, c1, c2, c3, c4, c5, f4, f5⟩ := SB.out _ HB7.out
  by_cases n0 : n = 0
  · have q9 := (keqR n0).2
    have HD2 : Hid (composeN p q = if ¬ (meetS p.minus q.minus = [] ∧ meetS p.plus q.plus = []) then (noPatch, 230) else (⟨unionS (minusS p.minus q.plus) (minusS q.minus p.plus), unionS (minusS p.plus q.minus) (minusS q.plus p.minus)⟩, 0)) := Lib.hid (by
      rw [HD.out, if_neg (fun h => h n0)]
      rw [if_neg (c := 1048576 < (unionS (minusS p.minus q.plus) (minusS q.minus p.plus)).length ∨ 1048576 < (unionS (minusS p.plus q.minus) (minusS q.plus p.minus)).length) (by omega)])
    clear HD n0
    by_cases h1 : 0 < (meetS p.minus q.minus).length
    · as_aux_lemma =>
      have HE : Hid (composeN p q = (noPatch, 230)) := Lib.hid (by rw [HD2.out, if_pos (fun h => by rw [h.1] at h1; simp at h1)])
      have t9 : decide ((0 : Int) < ((meetS p.minus q.minus).length : Int)) = true := decide_eq_true (by omega)
      have t9n : decide (0 < (meetS p.minus q.minus).length) = true := decide_eq_true (by omega)
      clear HD2
      go_enter Tryz.func25, Tryz.ntmps25
      go_wp2_with (first | (go_at_call 47; (with_reducible refine (TW.out _ ?hb).mono ?_); (case hb => exact HB0.out.trans (HB7.out.mono HB0.out.size)); rintro e w3 ⟨rfl, hb3⟩; have HB8 := Lib.hid (HB7.out.trans (hb3.mono HB7.out.size)); clear HB7 hb3; have HB7 := HB8; clear HB8; clear c0 c1 c2 c3 c4 c5 f4 f5; obtain ⟨c0, c1, c2, c3, c4, c5, f4, f5⟩ := SB.out _ HB7.out) | (go_at_call 42; (with_reducible refine (ME1.out _ ?hb).mono ?_); (case hb => exact HB0.out.trans (HB7.out.mono HB0.out.size)); rintro e w6 ⟨vv, rfl, ho, hb6⟩; obtain ⟨qa6, qc6, rfl⟩ := ho.view.form; clear ho; have HB8 := Lib.hid (HB7.out.trans (hb6.mono HB7.out.size)); clear HB7 hb6; have HB7 := HB8; clear HB8; clear c0 c1 c2 c3 c4 c5 f4 f5; obtain ⟨c0, c1, c2, c3, c4, c5, f4, f5⟩ := SB.out _ HB7.out))
      refine bodyPost_ret (v := .tuple #[.agg #[.slice none 0 0, .slice none 0 0], .int .i64 230]) (by simp [results, Tryz.results25, go_sem, c4, c5]) rfl ?_
      exact ⟨_, _, by rw [HE.out], by rw [HE.out]; exact PFresh.nil _ _, ((HB0.out.trans (HB7.out.mono HB0.out.size)).setCell (p := ⟨w.heap.size + 1 + 1, 0, none⟩) (by simp only; omega) _).setCell (p := ⟨w.heap.size + 1 + 1, 1, none⟩) (by simp only; omega) _⟩
    have t9 : decide ((0 : Int) < ((meetS p.minus q.minus).length : Int)) = false := decide_eq_false (by omega)
    have t9n : decide (0 < (meetS p.minus q.minus).length) = false := decide_eq_false (by omega)
    by_cases h2 : 0 < (meetS p.plus q.plus).length
    · as_aux_lemma =>
      have HE : Hid (composeN p q = (noPatch, 230)) := Lib.hid (by rw [HD2.out, if_pos (fun h => by rw [h.2] at h2; simp at h2)])
      have t10 : decide ((0 : Int) < ((meetS p.plus q.plus).length : Int)) = true := decide_eq_true (by omega)
      have t10n : decide (0 < (meetS p.plus q.plus).length) = true := decide_eq_true (by omega)
      clear HD2 h1
      go_enter Tryz.func25, Tryz.ntmps25
      go_wp2_with (first | (go_at_call 47; (with_reducible refine (TW.out _ ?hb).mono ?_); (case hb => exact HB0.out.trans (HB7.out.mono HB0.out.size)); rintro e w3 ⟨rfl, hb3⟩; have HB8 := Lib.hid (HB7.out.trans (hb3.mono HB7.out.size)); clear HB7 hb3; have HB7 := HB8; clear HB8; clear c0 c1 c2 c3 c4 c5 f4 f5; obtain ⟨c0, c1, c2, c3, c4, c5, f4, f5⟩ := SB.out _ HB7.out) | (go_at_call 42; (with_reducible refine (ME1.out _ ?hb).mono ?_); (case hb => exact HB0.out.trans (HB7.out.mono HB0.out.size)); rintro e w6 ⟨vv, rfl, ho, hb6⟩; obtain ⟨qa6, qc6, rfl⟩ := ho.view.form; clear ho; have HB8 := Lib.hid (HB7.out.trans (hb6.mono HB7.out.size)); clear HB7 hb6; have HB7 := HB8; clear HB8; clear c0 c1 c2 c3 c4 c5 f4 f5; obtain ⟨c0, c1, c2, c3, c4, c5, f4, f5⟩ := SB.out _ HB7.out) | (go_at_call 42; (with_reducible refine (ME2.out _ ?hb).mono ?_); (case hb => exact HB0.out.trans (HB7.out.mono HB0.out.size)); rintro e w7 ⟨vv, rfl, ho, hb7⟩; obtain ⟨qa7, qc7, rfl⟩ := ho.view.form; clear ho; have HB8 := Lib.hid (HB7.out.trans (hb7.mono HB7.out.size)); clear HB7 hb7; have HB7 := HB8; clear HB8; clear c0 c1 c2 c3 c4 c5 f4 f5; obtain ⟨c0, c1, c2, c3, c4, c5, f4, f5⟩ := SB.out _ HB7.out))
      refine bodyPost_ret (v := .tuple #[.agg #[.slice none 0 0, .slice none 0 0], .int .i64 230]) (by simp [results, Tryz.results25, go_sem, c4, c5]) rfl ?_
      exact ⟨_, _, by rw [HE.out], by rw [HE.out]; exact PFresh.nil _ _, ((HB0.out.trans (HB7.out.mono HB0.out.size)).setCell (p := ⟨w.heap.size + 1 + 1, 0, none⟩) (by simp only; omega) _).setCell (p := ⟨w.heap.size + 1 + 1, 1, none⟩) (by simp only; omega) _⟩
    have t10 : decide ((0 : Int) < ((meetS p.plus q.plus).length : Int)) = false := decide_eq_false (by omega)
    have t10n : decide (0 < (meetS p.plus q.plus).length) = false := decide_eq_false (by omega)
    have HE : Hid (composeN p q = (⟨unionS (minusS p.minus q.plus) (minusS q.minus p.plus), unionS (minusS p.plus q.minus) (minusS q.plus p.minus)⟩, 0)) := Lib.hid (by rw [HD2.out, if_neg (fun h => h ⟨List.eq_nil_of_length_eq_zero (by omega), List.eq_nil_of_length_eq_zero (by omega)⟩)])
    clear HD2 h1 h2
    as_aux_lemma =>
      go_enter Tryz.func25, Tryz.ntmps25
      go_upto_region 6 with (first | (go_at_call 47; (with_reducible refine (TW.out _ ?hb).mono ?_); (case hb => exact HB0.out.trans (HB7.out.mono HB0.out.size)); rintro e w3 ⟨rfl, hb3⟩; have HB8 := Lib.hid (HB7.out.trans (hb3.mono HB7.out.size)); clear HB7 hb3; have HB7 := HB8; clear HB8; clear c0 c1 c2 c3 c4 c5 f4 f5; obtain ⟨c0, c1, c2, c3, c4, c5, f4, f5⟩ := SB.out _ HB7.out) | (go_at_call 42; (with_reducible refine (ME1.out _ ?hb).mono ?_); (case hb => exact HB0.out.trans (HB7.out.mono HB0.out.size)); rintro e w6 ⟨vv, rfl, ho, hb6⟩; obtain ⟨qa6, qc6, rfl⟩ := ho.view.form; clear ho; have HB8 := Lib.hid (HB7.out.trans (hb6.mono HB7.out.size)); clear HB7 hb6; have HB7 := HB8; clear HB8; clear c0 c1 c2 c3 c4 c5 f4 f5; obtain ⟨c0, c1, c2, c3, c4, c5, f4, f5⟩ := SB.out _ HB7.out) | (go_at_call 42; (with_reducible refine (ME2.out _ ?hb).mono ?_); (case hb => exact HB0.out.trans (HB7.out.mono HB0.out.size)); rintro e w7 ⟨vv, rfl, ho, hb7⟩; obtain ⟨qa7, qc7, rfl⟩ := ho.view.form; clear ho; have HB8 := Lib.hid (HB7.out.trans (hb7.mono HB7.out.size)); clear HB7 hb7; have HB7 := HB8; clear HB8; clear c0 c1 c2 c3 c4 c5 f4 f5; obtain ⟨c0, c1, c2, c3, c4, c5, f4, f5⟩ := SB.out _ HB7.out))
      clear c0 c1 c2 c3 c4 c5 f4 f5
      have HB9 := Lib.hid (HB7.out.trans ((below_drewN _ 1).mono HB7.out.size))
      have HBQ := HB7
      clear HB7
      have HB7 := HB9
      clear HB9
      have BH : Hid True := Lib.hid trivial
      have HS : Hid True := Lib.hid trivial
      go_region_held3 (fun w' => w'.cell? ⟨w.heap.size, 0, none⟩ = some (.slice pm p.minus.length cm) ∧ w'.cell? ⟨w.heap.size, 1, none⟩ = some (.slice pp p.plus.length cp) ∧ w'.cell? ⟨w.heap.size + 1, 0, none⟩ = some (.slice qm q.minus.length dm) ∧ w'.cell? ⟨w.heap.size + 1, 1, none⟩ = some (.slice qp q.plus.length dp) ∧ w'.cell? ⟨w.heap.size + 1 + 1, 0, none⟩ = some (.slice none 0 0) ∧ w'.cell? ⟨w.heap.size + 1 + 1, 1, none⟩ = some (.slice none 0 0) ∧ w'.frozen? ⟨w.heap.size + 1 + 1, 0, none⟩ = false ∧ w'.frozen? ⟨w.heap.size + 1 + 1, 1, none⟩ = false) (first | exact SB.out _ HB7.out | exact SB.out _ (HB7.out.alloc HB7.out.size _) | exact SB.out _ (HB7.out.setCell (p := ⟨_, 0, none⟩) HS.out _) | exact SB.out _ ((HB7.out.setCell (p := ⟨_, 0, none⟩) HS.out _).setCell (p := ⟨_, 1, none⟩) HS.out _)) (first | (go_at_call 40; (with_reducible refine (M1.out _ ?hb8 ).mono ?_); (case hb8 => first | exact HB0.out.trans (HB7.out.mono HB0.out.size) | exact HB0.out.trans ((HB7.out.alloc HB7.out.size _).mono HB0.out.size) | exact HB0.out.trans (((HBQ.out.alloc HBQ.out.size _).trans ((below_drewN _ 1).mono (HBQ.out.alloc HBQ.out.size _).size)).mono HB0.out.size)); rintro e w8 ⟨vv, rfl, ho, hb⟩; obtain ⟨qa8, qc8, rfl⟩ := ho.view.form; (first | (have zb := Lib.hid (HB7.out.trans (hb.mono HB7.out.size)); have zt := Lib.hid hb; have zl := Lib.hid HB7.out.size) | (have zb := Lib.hid (step_below HB7.out hb); have zt := Lib.hid (alloc_trans hb); clear BH HS; have BH := Lib.hid (block_after hb); have HS := Lib.hid HB7.out.size; have zl := Lib.hid (le_alloc HB7.out.size hb)) | (have zb := Lib.hid (step_below_d HBQ.out hb); have zt := zb; clear BH HS; have BH := Lib.hid (block_after_d hb); have HS := Lib.hid HBQ.out.size; have zl := Lib.hid (le_alloc_d HBQ.out.size hb))); have HO8 := Lib.hid (ho.less zl.out); clear HB7 ho hb zl; have HB7 := zb; clear zb zt) | (go_at_call 40; (with_reducible refine (M2.out _ ?hb9 ).mono ?_); (case hb9 => first | exact HB0.out.trans (HB7.out.mono HB0.out.size) | exact HB0.out.trans ((HB7.out.alloc HB7.out.size _).mono HB0.out.size)); rintro e w9 ⟨vv, rfl, ho, hb⟩; obtain ⟨qa9, qc9, rfl⟩ := ho.view.form; (first | (have zb := Lib.hid (HB7.out.trans (hb.mono HB7.out.size)); have zt := Lib.hid hb; have zl := Lib.hid HB7.out.size) | (have zb := Lib.hid (step_below HB7.out hb); have zt := Lib.hid (alloc_trans hb); clear BH HS; have BH := Lib.hid (block_after hb); have HS := Lib.hid HB7.out.size; have zl := Lib.hid (le_alloc HB7.out.size hb))); (try (have z := Lib.hid (block_later BH.out zt.out); clear BH; have BH := z; clear z)); (try (have z := Lib.hid (QOwn.below HO8.out zt.out); clear HO8; have HO8 := z; clear z)); have HO9 := Lib.hid (ho.less zl.out); clear HB7 ho hb zl; have HB7 := zb; clear zb zt) | (go_at_call 43; (with_reducible refine (UN1.out _ ?hb10 _ _ ?hv100 ?hv101).mono ?_); (case hb10 => first | exact HB0.out.trans (HB7.out.mono HB0.out.size) | exact HB0.out.trans ((HB7.out.alloc HB7.out.size _).mono HB0.out.size)); (case hv100 => first | exact HO8.out.view | exact HO8.out.view.below ((Below.refl _ _).alloc (Nat.le_refl _) _)); (case hv101 => first | exact HO9.out.view | exact HO9.out.view.below ((Below.refl _ _).alloc (Nat.le_refl _) _)); rintro e w10 ⟨vv, rfl, ho, hb⟩; obtain ⟨qa10, qc10, rfl⟩ := ho.view.form; (first | (have zb := Lib.hid (HB7.out.trans (hb.mono HB7.out.size)); have zt := Lib.hid hb; have zl := Lib.hid HB7.out.size) | (have zb := Lib.hid (step_below HB7.out hb); have zt := Lib.hid (alloc_trans hb); clear BH HS; have BH := Lib.hid (block_after hb); have HS := Lib.hid HB7.out.size; have zl := Lib.hid (le_alloc HB7.out.size hb))); (try (have z := Lib.hid (block_later BH.out zt.out); clear BH; have BH := z; clear z)); (try (have z := Lib.hid (QOwn.below HO8.out zt.out); clear HO8; have HO8 := z; clear z)); (try (have z := Lib.hid (QOwn.below HO9.out zt.out); clear HO9; have HO9 := z; clear z)); have HO10 := Lib.hid (ho.less zl.out); have HM := Lib.hid ho; have HC := Lib.hid (Below.refl w10.heap.size w10); clear HB7 ho hb zl; have HB7 := zb; clear zb zt) | (go_at_call 40; (with_reducible refine (M3.out _ ?hb11 ).mono ?_); (case hb11 => first | exact HB0.out.trans (HB7.out.mono HB0.out.size) | exact HB0.out.trans ((HB7.out.alloc HB7.out.size _).mono HB0.out.size)); rintro e w11 ⟨vv, rfl, ho, hb⟩; obtain ⟨qa11, qc11, rfl⟩ := ho.view.form; (first | (have zb := Lib.hid (HB7.out.trans (hb.mono HB7.out.size)); have zt := Lib.hid hb; have zl := Lib.hid HB7.out.size) | (have zb := Lib.hid (step_below HB7.out hb); have zt := Lib.hid (alloc_trans hb); clear BH HS; have BH := Lib.hid (block_after hb); have HS := Lib.hid HB7.out.size; have zl := Lib.hid (le_alloc HB7.out.size hb))); (try (have z := Lib.hid (block_later BH.out zt.out); clear BH; have BH := z; clear z)); (try (have z := Lib.hid (QOwn.below HO8.out zt.out); clear HO8; have HO8 := z; clear z)); (try (have z := Lib.hid (QOwn.below HO9.out zt.out); clear HO9; have HO9 := z; clear z)); (try (have z := Lib.hid (QOwn.below HO10.out zt.out); clear HO10; have HO10 := z; clear z)); (have z := Lib.hid (Below.trans HC.out (zt.out.mono HC.out.size))); have HO11 := Lib.hid (ho.less zl.out); clear HC; have HC := z; clear z; clear HB7 ho hb zl; have HB7 := zb; clear zb zt) | (go_at_call 40; (with_reducible refine (M4.out _ ?hb12 ).mono ?_); (case hb12 => first | exact HB0.out.trans (HB7.out.mono HB0.out.size) | exact HB0.out.trans ((HB7.out.alloc HB7.out.size _).mono HB0.out.size)); rintro e w12 ⟨vv, rfl, ho, hb⟩; obtain ⟨qa12, qc12, rfl⟩ := ho.view.form; (first | (have zb := Lib.hid (HB7.out.trans (hb.mono HB7.out.size)); have zt := Lib.hid hb; have zl := Lib.hid HB7.out.size) | (have zb := Lib.hid (step_below HB7.out hb); have zt := Lib.hid (alloc_trans hb); clear BH HS; have BH := Lib.hid (block_after hb); have HS := Lib.hid HB7.out.size; have zl := Lib.hid (le_alloc HB7.out.size hb))); (try (have z := Lib.hid (block_later BH.out zt.out); clear BH; have BH := z; clear z)); (try (have z := Lib.hid (QOwn.below HO8.out zt.out); clear HO8; have HO8 := z; clear z)); (try (have z := Lib.hid (QOwn.below HO9.out zt.out); clear HO9; have HO9 := z; clear z)); (try (have z := Lib.hid (QOwn.below HO10.out zt.out); clear HO10; have HO10 := z; clear z)); (try (have z := Lib.hid (QOwn.below HO11.out zt.out); clear HO11; have HO11 := z; clear z)); (have z := Lib.hid (Below.trans HC.out (zt.out.mono HC.out.size))); have HO12 := Lib.hid (ho.less zl.out); clear HC; have HC := z; clear z; clear HB7 ho hb zl; have HB7 := zb; clear zb zt) | (go_at_call 43; (with_reducible refine (UN2.out _ ?hb13 _ _ ?hv130 ?hv131).mono ?_); (case hb13 => first | exact HB0.out.trans (HB7.out.mono HB0.out.size) | exact HB0.out.trans ((HB7.out.alloc HB7.out.size _).mono HB0.out.size)); (case hv130 => first | exact HO11.out.view | exact HO11.out.view.below ((Below.refl _ _).alloc (Nat.le_refl _) _)); (case hv131 => first | exact HO12.out.view | exact HO12.out.view.below ((Below.refl _ _).alloc (Nat.le_refl _) _)); rintro e w13 ⟨vv, rfl, ho, hb⟩; obtain ⟨qa13, qc13, rfl⟩ := ho.view.form; (first | (have zb := Lib.hid (HB7.out.trans (hb.mono HB7.out.size)); have zt := Lib.hid hb; have zl := Lib.hid HB7.out.size) | (have zb := Lib.hid (step_below HB7.out hb); have zt := Lib.hid (alloc_trans hb); clear BH HS; have BH := Lib.hid (block_after hb); have HS := Lib.hid HB7.out.size; have zl := Lib.hid (le_alloc HB7.out.size hb))); (try (have z := Lib.hid (block_later BH.out zt.out); clear BH; have BH := z; clear z)); (try (have z := Lib.hid (QOwn.below HO8.out zt.out); clear HO8; have HO8 := z; clear z)); (try (have z := Lib.hid (QOwn.below HO9.out zt.out); clear HO9; have HO9 := z; clear z)); (try (have z := Lib.hid (QOwn.below HO10.out zt.out); clear HO10; have HO10 := z; clear z)); (try (have z := Lib.hid (QOwn.below HO11.out zt.out); clear HO11; have HO11 := z; clear z)); (try (have z := Lib.hid (QOwn.below HO12.out zt.out); clear HO12; have HO12 := z; clear z)); (have z := Lib.hid (Below.trans HC.out (zt.out.mono HC.out.size))); have HO13 := Lib.hid (ho.less zl.out); have AP := Lib.hid (QOwn.apart HM.out ho (by first | exact HC.out.size | exact Nat.le_trans HC.out.size (by simp))); clear HC; have HC := z; clear z; clear HB7 ho hb zl; have HB7 := zb; clear zb zt; (try (have kk := row2 BH.out; obtain ⟨k0, k1, g0, g1⟩ := kk))))
      all_goals first
        | (have zz := row2 BH.out; clear zz; obtain ⟨c0, c1, c2, c3, c4, c5, f4, f5⟩ := SB.out _ (set_below HB7.out BH.out HS.out (.slice qa10 (unionS (minusS p.minus q.plus) (minusS q.minus p.plus)).length qc10) (.slice qa13 (unionS (minusS p.plus q.minus) (minusS q.plus p.minus)).length qc13)); obtain ⟨m0, m1⟩ := row2_set (u := .slice qa10 (unionS (minusS p.minus q.plus) (minusS q.minus p.plus)).length qc10) (v := .slice qa13 (unionS (minusS p.plus q.minus) (minusS q.plus p.minus)).length qc13) BH.out; have RB := Lib.hid (Box2.stored (w := w) (u := .slice qa10 (unionS (minusS p.minus q.plus) (minusS q.minus p.plus)).length qc10) (v := .slice qa13 (unionS (minusS p.plus q.minus) (minusS q.plus p.minus)).length qc13) ⟨c4, c5, f4, f5, World.block_lt_of_cell? _ _ c4⟩); clear k0 k1 g0 g1; go_wp2_with fail; have r0 := RB.out.c0; have r1 := RB.out.c1; refine bodyPost_ret (v := .tuple #[.agg #[.slice qa10 (unionS (minusS p.minus q.plus) (minusS q.minus p.plus)).length qc10, .slice qa13 (unionS (minusS p.plus q.minus) (minusS q.plus p.minus)).length qc13], .int .i64 0]) (by simp [results, Tryz.results25, go_sem, r0, r1]) rfl ?_; obtain ⟨x1, x2⟩ := compose_fin (w := w) (g := w.heap.size + 1 + 1) HB0.out (by omega) HSZ.out HO10.out HO13.out AP.out BH.out HS.out HB7.out; exact ⟨_, _, by rw [HE.out], by rw [HE.out]; exact x1, x2⟩)
        | (obtain ⟨c0, c1, c2, c3, c4, c5, f4, f5⟩ := SB.out _ (HB7.out.alloc HB7.out.size (.cells #[.slice qa10 (unionS (minusS p.minus q.plus) (minusS q.minus p.plus)).length qc10, .slice qa13 (unionS (minusS p.plus q.minus) (minusS q.plus p.minus)).length qc13] 24)); go_wp2_with fail; refine bodyPost_ret (v := .tuple #[.agg #[.slice qa10 (unionS (minusS p.minus q.plus) (minusS q.minus p.plus)).length qc10, .slice qa13 (unionS (minusS p.plus q.minus) (minusS q.plus p.minus)).length qc13], .int .i64 0]) (by simp [results, Tryz.results25, go_sem, c4, c5]) rfl ?_; obtain ⟨x1, x2⟩ := compose_fin2 (w := w) (g := w.heap.size + 1 + 1) HB0.out (by omega) HSZ.out HO10.out HO13.out AP.out HB7.out; exact ⟨_, _, by rw [HE.out], by rw [HE.out]; exact x1, x2⟩)
  · as_aux_lemma =>
    have q9 := (kneR n0).2
    have HE : Hid (composeN p q = (noPatch, n)) := Lib.hid (by rw [HD.out, if_pos n0])
    clear HD n0
    go_enter Tryz.func25, Tryz.ntmps25
    go_wp2_with (go_at_call 47; (with_reducible refine (TW.out _ ?hb).mono ?_); (case hb => exact HB0.out.trans (HB7.out.mono HB0.out.size)); rintro e w3 ⟨rfl, hb3⟩; have HB8 := Lib.hid (HB7.out.trans (hb3.mono HB7.out.size)); clear HB7 hb3; have HB7 := HB8; clear HB8; clear c0 c1 c2 c3 c4 c5 f4 f5; obtain ⟨c0, c1, c2, c3, c4, c5, f4, f5⟩ := SB.out _ HB7.out)
    refine bodyPost_ret (v := .tuple #[.agg #[.slice none 0 0, .slice none 0 0], .int .i64 n]) (by simp [results, Tryz.results25, go_sem, c4, c5]) rfl ?_
    exact ⟨_, _, by rw [HE.out], by rw [HE.out]; exact PFresh.nil _ _, ((HB0.out.trans (HB7.out.mono HB0.out.size)).setCell (p := ⟨w.heap.size + 1 + 1, 0, none⟩) (by simp only; omega) _).setCell (p := ⟨w.heap.size + 1 + 1, 1, none⟩) (by simp only; omega) _⟩
end Go.Proofs.YthipcepgbegaiaaGreatDoor

/-
  tesseralaw23.PatchJoins: the walk: contracts. By an AI agent.
-/
namespace Go.Proofs.YthipcepgbegaiaaGreatDoor
open Go.RowKit
set_option maxRecDepth 100000

theorem step_below2 {W u w3 : World} {o o' : Obj} (h : Below W.heap.size W u) (hb : Below ((u.alloc o).alloc o').heap.size ((u.alloc o).alloc o') w3) : Below W.heap.size W w3 := ((h.alloc h.size _).alloc (by simp; have := h.size; omega) _).trans (hb.mono (by simp; have := h.size; omega))
theorem alloc_trans2 {w w3 : World} {o o' : Obj} (hb : Below ((w.alloc o).alloc o').heap.size ((w.alloc o).alloc o') w3) : Below w.heap.size w w3 := (((Below.refl _ w).alloc (Nat.le_refl _) o).alloc (by simp) o').trans (hb.mono (by simp; omega))
theorem block_after2 {w w3 : World} {cs cs' : Array Value} {T : TypeId} (hb : Below ((w.alloc (.cells cs T)).alloc (.cells cs' T)).heap.size ((w.alloc (.cells cs T)).alloc (.cells cs' T)) w3) : w3.heap[w.heap.size]? = some (.cells cs T (0, 0)) ∧ w3.heap[w.heap.size + 1]? = some (.cells cs' T (0, 0)) := by
  have e1 : (w.alloc (.cells cs T)).heap.size = w.heap.size + 1 := by simp
  refine ⟨?_, ?_⟩
  · rw [hb.block w.heap.size (by simp; omega), heap_alloc_old _ _ (by omega)]
    exact heap_alloc_new w _
  · rw [hb.block (w.heap.size + 1) (by simp), ← e1]
    exact heap_alloc_new _ _
theorem step_below_d2 {W w3 : World} {o o' : Obj} (hb : Below ((W.alloc o).alloc o').drew.heap.size ((W.alloc o).alloc o').drew w3) : Below W.heap.size W w3 :=
  step_below2 (Below.refl _ _) (show Below ((W.alloc o).alloc o').heap.size ((W.alloc o).alloc o') w3 from (below_drewN ((W.alloc o).alloc o') 1).trans hb)
theorem block_after_d2 {w w3 : World} {cs cs' : Array Value} {T : TypeId} (hb : Below ((w.alloc (.cells cs T)).alloc (.cells cs' T)).drew.heap.size ((w.alloc (.cells cs T)).alloc (.cells cs' T)).drew w3) : w3.heap[w.heap.size]? = some (.cells cs T (0, 0)) ∧ w3.heap[w.heap.size + 1]? = some (.cells cs' T (0, 0)) :=
  block_after2 (show Below ((w.alloc (.cells cs T)).alloc (.cells cs' T)).heap.size ((w.alloc (.cells cs T)).alloc (.cells cs' T)) w3 from (below_drewN ((w.alloc (.cells cs T)).alloc (.cells cs' T)) 1).trans hb)
theorem bel_alloc {w u : World} {o : Obj} (h : Below w.heap.size w u) : Below w.heap.size w (u.alloc o) := h.alloc h.size o
theorem row_lt {w : World} {g : Nat} {o : Obj} (h : w.heap[g]? = some o) : g < w.heap.size := (Array.getElem?_eq_some_iff.1 h).1
theorem over2_kept {w w' : World} {u v : Value} {g : Nat} {o : Obj} (h : w.heap[g]? = some o) (ho : Over2 w u v w') (ha : ∀ k, u.ownBlock = some k ∨ v.ownBlock = some k → k ≠ g) : w'.heap[g]? = some o :=
  (ho.block g (row_lt h) (fun e => ha g (.inl e) rfl) (fun e => ha g (.inr e) rfl)).trans h
theorem box_apart {w : World} {b1 b2 k g : Nat} {u v : Value} {l m : List QuadL} {cs : Array Value} (hu : QOwn b1 u l w) (hv : QOwn b2 v m w) (hK : w.heap[g]? = some (.cells cs 24 (0, 0))) (hk : u.ownBlock = some k ∨ v.ownBlock = some k) : k ≠ g := by
  rintro rfl
  rcases hk with e | e
  · exact own_type hu hK e
  · exact own_type hv hK e
/-- what a region that makes two roomy copies and two boxes leaves -/
structure JPre (p q : PatchL) (mv pv mv2 pv2 : Value) (g : Nat) (w W : World) : Prop where
  hW : Below w.heap.size w W
  k1 : W.cell? ⟨g, 0, none⟩ = some mv ∧ W.cell? ⟨g, 1, none⟩ = some pv
  k2 : W.cell? ⟨g + 1, 0, none⟩ = some mv2 ∧ W.cell? ⟨g + 1, 1, none⟩ = some pv2
  T : TabAt w
  M : MaxAt w
  P : PView w mv pv p
  Q : PView w mv2 pv2 q
abbrev zeroBox (w : World) (g : Nat) : Prop := w.heap[g]? = some (.cells #[.slice none 0 0, .slice none 0 0] 24 (0, 0))
section
variable {p q : PatchL} {mv pv mv2 pv2 rm rp sm sp : Value} {g : Nat} {w W u : World}
theorem JPre.fin (J : JPre p q mv pv mv2 pv2 g w W) {gc gd : Nat} {v : World} (hv : Below W.heap.size W v) (hc : PRoomy v rm rp p) (hd : PRoomy v sm sp q) (kc : v.cell? ⟨gc, 0, none⟩ = some rm ∧ v.cell? ⟨gc, 1, none⟩ = some rp) (kd : v.cell? ⟨gd, 0, none⟩ = some sm ∧ v.cell? ⟨gd, 1, none⟩ = some sp) :
    JoinsC p q mv pv mv2 pv2 rm rp sm sp g gc gd v ∧ Below w.heap.size w v := ⟨joinsC_of J.hW hv J.k1 J.k2 J.T J.M J.P J.Q hc hd kc kd, J.hW.trans (hv.mono J.hW.size)⟩
theorem bel1 (o : Obj) : Below u.heap.size u (u.alloc o) := (Below.refl _ _).alloc (Nat.le_refl _) _
theorem jc_nn1 (J : JPre p q mv pv mv2 pv2 g w W) (hu : Below W.heap.size W u) (hc : PRoomy u rm rp p) (hd : PRoomy u sm sp q) : JoinsC p q mv pv mv2 pv2 rm rp sm sp g u.heap.size (u.heap.size + 1) ((u.alloc (.cells #[rm, rp] 24)).alloc (.cells #[sm, sp] 24)) ∧ Below w.heap.size w ((u.alloc (.cells #[rm, rp] 24)).alloc (.cells #[sm, sp] 24)) := by
  refine J.fin (bel_alloc (bel_alloc hu)) ((hc.below (bel1 _)).below (bel1 _)) ((hd.below (bel1 _)).below (bel1 _)) (boxP_kept boxP_new (bel1 _)) ?_
  have := boxP_new (w := u.alloc (.cells #[rm, rp] 24)) (x := sm) (y := sp) (T := 24)
  rw [show (u.alloc (.cells #[rm, rp] 24)).heap.size = u.heap.size + 1 by simp] at this
  exact this
theorem jc_nn2 (J : JPre p q mv pv mv2 pv2 g w W) (hu : Below W.heap.size W u) (hc : PRoomy u rm rp p) (hd : PRoomy u sm sp q) : JoinsC p q mv pv mv2 pv2 rm rp sm sp g (u.heap.size + 1) u.heap.size ((u.alloc (.cells #[sm, sp] 24)).alloc (.cells #[rm, rp] 24)) ∧ Below w.heap.size w ((u.alloc (.cells #[sm, sp] 24)).alloc (.cells #[rm, rp] 24)) := by
  refine J.fin (bel_alloc (bel_alloc hu)) ((hc.below (bel1 _)).below (bel1 _)) ((hd.below (bel1 _)).below (bel1 _)) ?_ (boxP_kept boxP_new (bel1 _))
  have := boxP_new (w := u.alloc (.cells #[sm, sp] 24)) (x := rm) (y := rp) (T := 24)
  rw [show (u.alloc (.cells #[sm, sp] 24)).heap.size = u.heap.size + 1 by simp] at this
  exact this
theorem pr_box {x y : Value} {k : Nat} (h : PRoomy u rm rp p) (hb : zeroBox u k) : PRoomy ((u.setCell ⟨k, 0, none⟩ x).setCell ⟨k, 1, none⟩ y) rm rp p := ⟨roomy_box h.1 hb, roomy_box h.2 hb⟩
theorem size_set2 {x y : Value} {k : Nat} : ((u.setCell ⟨k, 0, none⟩ x).setCell ⟨k, 1, none⟩ y).heap.size = u.heap.size := by simp
theorem jc_on1 {k : Nat} (J : JPre p q mv pv mv2 pv2 g w W) (hu : Below W.heap.size W u) (hc : PRoomy u rm rp p) (hd : PRoomy u sm sp q) (hb : zeroBox u k) (hs : W.heap.size ≤ k) :
    JoinsC p q mv pv mv2 pv2 rm rp sm sp g k u.heap.size (((u.setCell ⟨k, 0, none⟩ rm).setCell ⟨k, 1, none⟩ rp).alloc (.cells #[sm, sp] 24)) ∧ Below w.heap.size w (((u.setCell ⟨k, 0, none⟩ rm).setCell ⟨k, 1, none⟩ rp).alloc (.cells #[sm, sp] 24)) := by
  refine J.fin (bel_alloc (set_below hu hb hs rm rp)) ((pr_box hc hb).below (bel1 _)) ((pr_box hd hb).below (bel1 _)) (boxP_kept (row2_set hb) (bel1 _)) ?_
  have := boxP_new (w := (u.setCell ⟨k, 0, none⟩ rm).setCell ⟨k, 1, none⟩ rp) (x := sm) (y := sp) (T := 24)
  rw [size_set2] at this
  exact this
theorem jc_on2 {k : Nat} (J : JPre p q mv pv mv2 pv2 g w W) (hu : Below W.heap.size W u) (hc : PRoomy u rm rp p) (hd : PRoomy u sm sp q) (hb : zeroBox u k) (hs : W.heap.size ≤ k) :
    JoinsC p q mv pv mv2 pv2 rm rp sm sp g u.heap.size k (((u.setCell ⟨k, 0, none⟩ sm).setCell ⟨k, 1, none⟩ sp).alloc (.cells #[rm, rp] 24)) ∧ Below w.heap.size w (((u.setCell ⟨k, 0, none⟩ sm).setCell ⟨k, 1, none⟩ sp).alloc (.cells #[rm, rp] 24)) := by
  refine J.fin (bel_alloc (set_below hu hb hs sm sp)) ((pr_box hc hb).below (bel1 _)) ((pr_box hd hb).below (bel1 _)) ?_ (boxP_kept (row2_set hb) (bel1 _))
  have := boxP_new (w := (u.setCell ⟨k, 0, none⟩ sm).setCell ⟨k, 1, none⟩ sp) (x := rm) (y := rp) (T := 24)
  rw [size_set2] at this
  exact this
theorem jc_oo {k j : Nat} (J : JPre p q mv pv mv2 pv2 g w W) (hu : Below W.heap.size W u) (hc : PRoomy u rm rp p) (hd : PRoomy u sm sp q) (hb : zeroBox u k) (hs : W.heap.size ≤ k) (hb2 : zeroBox u j) (hs2 : W.heap.size ≤ j) (hne : j ≠ k) :
    JoinsC p q mv pv mv2 pv2 rm rp sm sp g k j ((((u.setCell ⟨k, 0, none⟩ rm).setCell ⟨k, 1, none⟩ rp).setCell ⟨j, 0, none⟩ sm).setCell ⟨j, 1, none⟩ sp) ∧ Below w.heap.size w ((((u.setCell ⟨k, 0, none⟩ rm).setCell ⟨k, 1, none⟩ rp).setCell ⟨j, 0, none⟩ sm).setCell ⟨j, 1, none⟩ sp) := by
  have b2 : zeroBox ((u.setCell ⟨k, 0, none⟩ rm).setCell ⟨k, 1, none⟩ rp) j := by
    unfold zeroBox
    rw [Below.heap_setCell _ _ _ _ (by simpa using hne), Below.heap_setCell _ _ _ _ (by simpa using hne)]
    exact hb2
  refine J.fin (set_below (set_below hu hb hs rm rp) b2 hs2 sm sp) (pr_box (pr_box hc hb) b2) (pr_box (pr_box hd hb) b2) ?_ (row2_set b2)
  obtain ⟨c0, c1⟩ := row2_set (u := rm) (v := rp) hb
  exact ⟨by rw [World.cell?_setCell_other _ _ _ _ (by simp), World.cell?_setCell_other _ _ _ _ (by simp)]; exact c0, by rw [World.cell?_setCell_other _ _ _ _ (by simp), World.cell?_setCell_other _ _ _ _ (by simp)]; exact c1⟩
end
set_option maxHeartbeats 8000000 in
theorem joins_walk23 (p q : PatchL) (mv pv mv2 pv2 : Value) (w : World) (hT : TabAt w) (hM : MaxAt w) (hp : PView w mv pv p) (hq : PView w mv2 pv2 q) (n0 : NeatP p) (n1 : NeatP q) :
    Calls Tryz.prog 4 #[.agg #[mv, pv], .agg #[mv2, pv2]] w fun e w' => e = .returned (.bool true) ∧ Below w.heap.size w w' := by
  have RA := Lib.hid (fun (u : World) (hb : Below w.heap.size w u) => roomyP_l p mv pv u (hp.below hb) n0)
  have RB := Lib.hid (fun (u : World) (hb : Below w.heap.size w u) => roomyP_l q mv2 pv2 u (hq.below hb) n1)
  have IN := Lib.hid (And.intro hT (And.intro hM (And.intro hp hq)))
  have NN := Lib.hid (And.intro n0 n1)
  obtain ⟨pm, cm, rfl⟩ := hp.1.form
  obtain ⟨pp, cp, rfl⟩ := hp.2.form
  obtain ⟨qm, dm, rfl⟩ := hq.1.form
  obtain ⟨qp, dp, rfl⟩ := hq.2.form
  clear hT hM hp hq n0 n1
  obtain ⟨W, hW⟩ : ∃ W, (w.alloc (.cells #[.slice pm p.minus.length cm, .slice pp p.plus.length cp] 24)).alloc (.cells #[.slice qm q.minus.length dm, .slice qp q.plus.length dp] 24) = W := ⟨_, rfl⟩
  have HB0 : Hid (Below w.heap.size w W) := Lib.hid (by rw [← hW]; exact ((Below.refl _ _).alloc (Nat.le_refl _) _).alloc (by simp) _)
  have SB : Hid (∀ w', Below W.heap.size W w' → w'.cell? ⟨w.heap.size, 0, none⟩ = some (.slice pm p.minus.length cm) ∧ w'.cell? ⟨w.heap.size, 1, none⟩ = some (.slice pp p.plus.length cp) ∧ w'.cell? ⟨w.heap.size + 1, 0, none⟩ = some (.slice qm q.minus.length dm) ∧ w'.cell? ⟨w.heap.size + 1, 1, none⟩ = some (.slice qp q.plus.length dp)) := Lib.hid (fun w' hb => by
    rw [← hW] at hb
    obtain ⟨e1, e2⟩ := held2 rfl hb
    exact ⟨e1 0 _ rfl, e1 1 _ rfl, e2 0 _ rfl, e2 1 _ rfl⟩)
  have KW := Lib.hid (SB.out W (Below.refl _ _))
  have JP : Hid (JPre p q (.slice pm p.minus.length cm) (.slice pp p.plus.length cp) (.slice qm q.minus.length dm) (.slice qp q.plus.length dp) w.heap.size w W) := Lib.hid ⟨HB0.out, ⟨KW.out.1, KW.out.2.1⟩, ⟨KW.out.2.2.1, KW.out.2.2.2⟩, IN.out.1, IN.out.2.1, IN.out.2.2.1, IN.out.2.2.2⟩
  go_enter Tryz.func4, Tryz.ntmps4
  go_upto_region 1 with fail
  go_cut [5, 6] from 19 (fun x5 x6 wx => ∃ gc gd rm rp sm sp, x5 = .pointer (some ⟨gc, 0, none⟩) ∧ x6 = .pointer (some ⟨gd, 0, none⟩) ∧ JoinsC p q (.slice pm p.minus.length cm) (.slice pp p.plus.length cp) (.slice qm q.minus.length dm) (.slice qp q.plus.length dp) rm rp sm sp w.heap.size gc gd wx ∧ Below w.heap.size w wx)
  case first =>
    as_aux_lemma =>
      have HBQ : Hid (Below W.heap.size W W) := Lib.hid (Below.refl _ _)
      have HB7 : Hid (Below W.heap.size W W.drew) := Lib.hid (below_drewN W 1)
      have B3 : Hid True := Lib.hid trivial
      have C3 : Hid True := Lib.hid trivial
      have B4 : Hid True := Lib.hid trivial
      have C4 : Hid True := Lib.hid trivial
      have HS3 : Hid True := Lib.hid trivial
      have HS4 : Hid True := Lib.hid trivial
      have r3 : Hid True := Lib.hid trivial
      go_region_held3 (fun w' => w'.cell? ⟨w.heap.size, 0, none⟩ = some (.slice pm p.minus.length cm) ∧ w'.cell? ⟨w.heap.size, 1, none⟩ = some (.slice pp p.plus.length cp) ∧ w'.cell? ⟨w.heap.size + 1, 0, none⟩ = some (.slice qm q.minus.length dm) ∧ w'.cell? ⟨w.heap.size + 1, 1, none⟩ = some (.slice qp q.plus.length dp)) (first | exact SB.out _ HB7.out | exact SB.out _ (bel_alloc HB7.out) | exact SB.out _ (bel_alloc (bel_alloc HB7.out)) | (refine SB.out _ ?_; repeat' first | exact HB7.out | exact HS3.out | exact HS4.out | exact Nat.le_succ_of_le HS3.out | exact Nat.le_succ_of_le HS4.out | exact HB7.out.size | exact Nat.le_succ_of_le HB7.out.size | refine bel_alloc ?_ | refine Below.setCell ?_ ?_ _)) (first | (go_at_call 8; (with_reducible refine (RA.out _ ?hb3).mono ?_); (case hb3 => first | exact HB0.out.trans (HB7.out.mono HB0.out.size) | exact HB0.out.trans ((HB7.out.alloc HB7.out.size _).mono HB0.out.size) | exact HB0.out.trans (((HB7.out.alloc HB7.out.size _).alloc (by simp; have := HB7.out.size; omega) _).mono HB0.out.size) | exact HB0.out.trans (((HBQ.out.alloc HBQ.out.size _).trans ((below_drewN _ 1).mono (HBQ.out.alloc HBQ.out.size _).size)).mono HB0.out.size) | exact HB0.out.trans ((((HBQ.out.alloc HBQ.out.size _).alloc (by simp) _).trans ((below_drewN _ 1).mono ((HBQ.out.alloc HBQ.out.size _).alloc (by simp) _).size)).mono HB0.out.size)); rintro e w3 ⟨rm, rp, rfl, ho, hb⟩; obtain ⟨gm, rfl⟩ := ho.1.form; obtain ⟨gp, rfl⟩ := ho.2.form; have HO3 := Lib.hid ho; (first | (have zb := Lib.hid (HB7.out.trans (hb.mono HB7.out.size)); have zt := Lib.hid hb) | (have zb := Lib.hid (step_below HB7.out hb); have zt := Lib.hid (alloc_trans hb); have B3 := Lib.hid (block_after hb); have HS3 := Lib.hid HB7.out.size) | (have zb := Lib.hid (step_below2 HB7.out hb); have zt := Lib.hid (alloc_trans2 hb); have B3 := Lib.hid (block_after2 hb).1; have HS3 := Lib.hid HB7.out.size; have C3 := Lib.hid (block_after2 hb).2) | (have zb := Lib.hid (step_below_d HBQ.out hb); have zt := zb; have B3 := Lib.hid (block_after_d hb); have HS3 := Lib.hid HBQ.out.size) | (have zb := Lib.hid (step_below_d2 hb); have zt := zb; have B3 := Lib.hid (block_after_d2 hb).1; have HS3 := Lib.hid HBQ.out.size; have C3 := Lib.hid (block_after_d2 hb).2));  clear HB7 ho hb; have HB7 := zb; clear zb zt; (try have r3 := Lib.hid (row_lt B3.out))) | (go_at_call 8; (with_reducible refine (RB.out _ ?hb4).mono ?_); (case hb4 => first | exact HB0.out.trans (HB7.out.mono HB0.out.size) | exact HB0.out.trans ((HB7.out.alloc HB7.out.size _).mono HB0.out.size) | exact HB0.out.trans (((HB7.out.alloc HB7.out.size _).alloc (by simp; have := HB7.out.size; omega) _).mono HB0.out.size)); rintro e w4 ⟨rm, rp, rfl, ho, hb⟩; obtain ⟨hm, rfl⟩ := ho.1.form; obtain ⟨hp, rfl⟩ := ho.2.form; have HO4 := Lib.hid ho; (first | (have zb := Lib.hid (HB7.out.trans (hb.mono HB7.out.size)); have zt := Lib.hid hb) | (have zb := Lib.hid (step_below HB7.out hb); have zt := Lib.hid (alloc_trans hb); have B4 := Lib.hid (block_after hb); have HS4 := Lib.hid HB7.out.size) | (have zb := Lib.hid (step_below2 HB7.out hb); have zt := Lib.hid (alloc_trans2 hb); have B4 := Lib.hid (block_after2 hb).1; have HS4 := Lib.hid HB7.out.size; have C4 := Lib.hid (block_after2 hb).2)); (try (have z := Lib.hid (block_later B3.out zt.out); clear B3; have B3 := z; clear z)); (try (have z := Lib.hid (block_later C3.out zt.out); clear C3; have C3 := z; clear z)); (have z := Lib.hid (PRoomy.below HO3.out zt.out); clear HO3; have HO3 := z; clear z);  clear HB7 ho hb; have HB7 := zb; clear zb zt; (try (have q3 := Nat.ne_of_lt r3.out; have q4 := q3.symm)); (try (have kk := row2 B3.out; obtain ⟨kB30, kB31, gB30, gB31⟩ := kk; have lB3 := row_lt B3.out; have mB3 := Nat.ne_of_lt lB3; have nB3 := mB3.symm)); (try (have kk := row2 C3.out; obtain ⟨kC30, kC31, gC30, gC31⟩ := kk; have lC3 := row_lt C3.out; have mC3 := Nat.ne_of_lt lC3; have nC3 := mC3.symm)); (try (have kk := row2 B4.out; obtain ⟨kB40, kB41, gB40, gB41⟩ := kk; have lB4 := row_lt B4.out; have mB4 := Nat.ne_of_lt lB4; have nB4 := mB4.symm)); (try (have kk := row2 C4.out; obtain ⟨kC40, kC41, gC40, gC41⟩ := kk; have lC4 := row_lt C4.out; have mC4 := Nat.ne_of_lt lC4; have nC4 := mC4.symm))))
      all_goals (go_wp2_with fail; go_meet; first
        | (have jj := jc_nn1 JP.out HB7.out HO3.out HO4.out; exact ⟨_, _, _, _, _, _, rfl, rfl, jj.1, jj.2⟩)
        | (have jj := jc_on1 JP.out HB7.out HO3.out HO4.out B3.out HS3.out; exact ⟨_, _, _, _, _, _, rfl, rfl, jj.1, jj.2⟩)
        | (have jj := jc_on2 JP.out HB7.out HO3.out HO4.out B3.out HS3.out; exact ⟨_, _, _, _, _, _, rfl, rfl, jj.1, jj.2⟩)
        | (have jj := jc_on1 JP.out HB7.out HO3.out HO4.out B4.out HS4.out; exact ⟨_, _, _, _, _, _, rfl, rfl, jj.1, jj.2⟩)
        | (have jj := jc_on2 JP.out HB7.out HO3.out HO4.out B4.out HS4.out; exact ⟨_, _, _, _, _, _, rfl, rfl, jj.1, jj.2⟩)
        | (have jj := jc_oo JP.out HB7.out HO3.out HO4.out B3.out HS3.out C3.out (Nat.le_succ_of_le HS3.out) (by omega); exact ⟨_, _, _, _, _, _, rfl, rfl, jj.1, jj.2⟩)
        | (have jj := jc_oo JP.out HB7.out HO3.out HO4.out C3.out (Nat.le_succ_of_le HS3.out) B3.out HS3.out (by omega); exact ⟨_, _, _, _, _, _, rfl, rfl, jj.1, jj.2⟩)
        | (have jj := jc_oo JP.out HB7.out HO3.out HO4.out B4.out HS4.out C4.out (Nat.le_succ_of_le HS4.out) (by omega); exact ⟨_, _, _, _, _, _, rfl, rfl, jj.1, jj.2⟩)
        | (have jj := jc_oo JP.out HB7.out HO3.out HO4.out C4.out (Nat.le_succ_of_le HS4.out) B4.out HS4.out (by omega); exact ⟨_, _, _, _, _, _, rfl, rfl, jj.1, jj.2⟩)
        | (have jj := jc_oo JP.out HB7.out HO3.out HO4.out B3.out HS3.out B4.out HS4.out q4; exact ⟨_, _, _, _, _, _, rfl, rfl, jj.1, jj.2⟩)
        | (have jj := jc_oo JP.out HB7.out HO3.out HO4.out B4.out HS4.out B3.out HS3.out q3; exact ⟨_, _, _, _, _, _, rfl, rfl, jj.1, jj.2⟩)
        | (have jj := jc_nn2 JP.out HB7.out HO3.out HO4.out; exact ⟨_, _, _, _, _, _, rfl, rfl, jj.1, jj.2⟩))
  case rest =>
    obtain ⟨gc, gd, rm, rp, sm, sp, rfl, rfl, hmx, hbx⟩ := hcut
    clear RA RB IN HB0 SB KW JP hW
    obtain ⟨gm, rfl⟩ := hmx.c.1.form
    obtain ⟨gp, rfl⟩ := hmx.c.2.form
    obtain ⟨hm, rfl⟩ := hmx.d.1.form
    obtain ⟨hp, rfl⟩ := hmx.d.2.form
    have HM := Lib.hid hmx
    have HBX := Lib.hid hbx
    clear hmx hbx
    obtain ⟨z, hD⟩ : ∃ z, invertN p = z := ⟨_, rfl⟩
    obtain ⟨D, eD⟩ := z
    obtain ⟨z, hL⟩ : ∃ z, composeN p q = z := ⟨_, rfl⟩
    obtain ⟨L, eL⟩ := z
    obtain ⟨z, hN⟩ : ∃ z, overN p q = z := ⟨_, rfl⟩
    obtain ⟨N, eN⟩ := z
    have lD := invertN_len p
    rw [hD] at lD
    have lL := composeN_len p q
    rw [hL] at lL
    have lN := overN_len p q
    rw [hN] at lN
    simp only at lD lL lN
    have lD1 : D.minus.length ≤ 2097152 := by have := NN.out.1.1.1; have := NN.out.1.2.1; have := NN.out.2.1.1; have := NN.out.2.2.1; omega
    have lD2 : D.plus.length ≤ 2097152 := by have := NN.out.1.1.1; have := NN.out.1.2.1; have := NN.out.2.1.1; have := NN.out.2.2.1; omega
    have lL1 : L.minus.length ≤ 2097152 := by have := NN.out.1.1.1; have := NN.out.1.2.1; have := NN.out.2.1.1; have := NN.out.2.2.1; omega
    have lL2 : L.plus.length ≤ 2097152 := by have := NN.out.1.1.1; have := NN.out.1.2.1; have := NN.out.2.1.1; have := NN.out.2.2.1; omega
    have lN1 : N.minus.length ≤ 2097152 := by have := NN.out.1.1.1; have := NN.out.1.2.1; have := NN.out.2.1.1; have := NN.out.2.2.1; omega
    have lN2 : N.plus.length ≤ 2097152 := by have := NN.out.1.1.1; have := NN.out.1.2.1; have := NN.out.2.1.1; have := NN.out.2.2.1; omega
    clear lD lL lN
    have D1 : Hid (∀ u, Below wc.heap.size wc u → Calls Tryz.prog 22 #[.agg #[.slice (some ⟨gm, 0, none⟩) p.minus.length (p.minus.length + 2), .slice (some ⟨gp, 0, none⟩) p.plus.length (p.plus.length + 2)]] u fun e w' => ∃ x y, e = .returned (.tuple #[.agg #[x, y], .int .i64 eD]) ∧ PFresh u.heap.size x y D w' ∧ Below u.heap.size u w') := Lib.hid (fun u hb => by
      have h := HM.out.below hb
      have h := patchInvert_l set_ok p _ _ u h.T h.M h.c.view NN.out.1
      rw [hD] at h
      exact h)
    have D2 : Hid (∀ u, Below wc.heap.size wc u → Calls Tryz.prog 23 #[.agg #[.slice pm p.minus.length cm, .slice pp p.plus.length cp]] u fun e w' => ∃ x y, e = .returned (.tuple #[.agg #[x, y], .int .i64 eD]) ∧ PView w' x y D ∧ Below u.heap.size u w') := Lib.hid (fun u hb => by
      have h := HM.out.below hb
      have h := ref23Invert_l p _ _ u h.P NN.out.1
      rw [hD] at h
      exact h)
    have A1 : Hid (∀ u, Below wc.heap.size wc u → Calls Tryz.prog 24 #[.agg #[.slice (some ⟨gm, 0, none⟩) p.minus.length (p.minus.length + 2), .slice (some ⟨gp, 0, none⟩) p.plus.length (p.plus.length + 2)], .agg #[.slice (some ⟨hm, 0, none⟩) q.minus.length (q.minus.length + 2), .slice (some ⟨hp, 0, none⟩) q.plus.length (q.plus.length + 2)]] u fun e w' => ∃ x y, e = .returned (.tuple #[.agg #[x, y], .int .i64 eL]) ∧ PFresh u.heap.size x y L w' ∧ Below u.heap.size u w') := Lib.hid (fun u hb => by
      have h := HM.out.below hb
      have h := patchCompose_l set_ok p q _ _ _ _ u h.T h.M h.c.view h.d.view NN.out.1 NN.out.2
      rw [hL] at h
      exact h)
    have A2 : Hid (∀ u, Below wc.heap.size wc u → Calls Tryz.prog 25 #[.agg #[.slice pm p.minus.length cm, .slice pp p.plus.length cp], .agg #[.slice qm q.minus.length dm, .slice qp q.plus.length dp]] u fun e w' => ∃ x y, e = .returned (.tuple #[.agg #[x, y], .int .i64 eL]) ∧ PFresh u.heap.size x y L w' ∧ Below u.heap.size u w') := Lib.hid (fun u hb => by
      have h := HM.out.below hb
      have h := ref23Compose_l p q _ _ _ _ u h.P h.Q NN.out.1 NN.out.2
      rw [hL] at h
      exact h)
    have F1 : Hid (∀ u, Below wc.heap.size wc u → Calls Tryz.prog 26 #[.agg #[.slice (some ⟨gm, 0, none⟩) p.minus.length (p.minus.length + 2), .slice (some ⟨gp, 0, none⟩) p.plus.length (p.plus.length + 2)], .agg #[.slice (some ⟨hm, 0, none⟩) q.minus.length (q.minus.length + 2), .slice (some ⟨hp, 0, none⟩) q.plus.length (q.plus.length + 2)]] u fun e w' => ∃ x y, e = .returned (.tuple #[.agg #[x, y], .int .i64 eN]) ∧ PFresh u.heap.size x y N w' ∧ Below u.heap.size u w') := Lib.hid (fun u hb => by
      have h := HM.out.below hb
      have h := patchOver_l set_ok p q _ _ _ _ u h.T h.M h.c.view h.d.view NN.out.1 NN.out.2
      rw [hN] at h
      exact h)
    have F2 : Hid (∀ u, Below wc.heap.size wc u → Calls Tryz.prog 27 #[.agg #[.slice pm p.minus.length cm, .slice pp p.plus.length cp], .agg #[.slice qm q.minus.length dm, .slice qp q.plus.length dp]] u fun e w' => ∃ x y, e = .returned (.tuple #[.agg #[x, y], .int .i64 eN]) ∧ PFresh u.heap.size x y N w' ∧ Below u.heap.size u w') := Lib.hid (fun u hb => by
      have h := HM.out.below hb
      have h := ref23Over_l p q _ _ _ _ u h.P h.Q NN.out.1 NN.out.2
      rw [hN] at h
      exact h)
    have KP : Hid (∀ u, Below wc.heap.size wc u → Calls Tryz.prog 21 #[.agg #[.slice (some ⟨gm, 0, none⟩) p.minus.length (p.minus.length + 2), .slice (some ⟨gp, 0, none⟩) p.plus.length (p.plus.length + 2)], .agg #[.slice pm p.minus.length cm, .slice pp p.plus.length cp]] u fun e w' => e = .returned (.bool true) ∧ Below u.heap.size u w') := Lib.hid (fun u hb => by
      have h := HM.out.below hb
      have h := keptP_l p _ _ _ _ u h.c h.P NN.out.1
      exact h)
    have KQ : Hid (∀ u, Below wc.heap.size wc u → Calls Tryz.prog 21 #[.agg #[.slice (some ⟨hm, 0, none⟩) q.minus.length (q.minus.length + 2), .slice (some ⟨hp, 0, none⟩) q.plus.length (q.plus.length + 2)], .agg #[.slice qm q.minus.length dm, .slice qp q.plus.length dp]] u fun e w' => e = .returned (.bool true) ∧ Below u.heap.size u w') := Lib.hid (fun u hb => by
      have h := HM.out.below hb
      have h := keptP_l q _ _ _ _ u h.d h.Q NN.out.2
      exact h)
    have HB7 : Hid (Below wc.heap.size wc wc) := Lib.hid (Below.refl _ _)
    clear hD hL hN NN
    as_aux_lemma =>
      obtain ⟨o0, o1⟩ := (HM.out.below HB7.out).kc
      go_upto_region 3 with (go_at_call 22; (with_reducible refine (D1.out _ HB7.out).mono ?_); rintro e y1 ⟨mz, pz, rfl, hf, hb⟩; obtain ⟨max, mcx, rfl⟩ := hf.1.view.form; obtain ⟨pax, pcx, rfl⟩ := hf.2.1.view.form; have HF := Lib.hid (PFresh.less hf HB7.out.size); have HX := Lib.hid hb; clear hf hb)
      have HX2 : Hid (Below wc.heap.size wc (y1.alloc (.cells #[.slice max D.minus.length mcx, .slice pax D.plus.length pcx] 24))) := Lib.hid (HX.out.alloc HX.out.size _)
      have Px : Hid (PFresh wc.heap.size (.slice max D.minus.length mcx) (.slice pax D.plus.length pcx) D (y1.alloc (.cells #[.slice max D.minus.length mcx, .slice pax D.plus.length pcx] 24))) := Lib.hid (HF.out.below ((Below.refl _ _).alloc (Nat.le_refl _) _))
      have Kx : Hid ((y1.alloc (.cells #[.slice max D.minus.length mcx, .slice pax D.plus.length pcx] 24)).heap[y1.heap.size]? = some (.cells #[.slice max D.minus.length mcx, .slice pax D.plus.length pcx] 24 (0, 0))) := Lib.hid (heap_alloc_new _ _)
      have HB8 := Lib.hid (HB7.out.trans (HX2.out.mono HB7.out.size))
      clear HB7
      have HB7 := HB8
      clear HB8
      clear HX HX2 HF o0 o1
      generalize hV1 : y1.alloc (.cells #[.slice max D.minus.length mcx, .slice pax D.plus.length pcx] 24) = V1 at HB7 Px Kx ⊢
      clear hV1
      as_aux_lemma =>
        obtain ⟨o0, o1⟩ := (HM.out.below HB7.out).kp
        go_upto_region 4 with (go_at_call 23; (with_reducible refine (D2.out _ HB7.out).mono ?_); rintro e y2 ⟨mz, pz, rfl, hf, hb⟩; obtain ⟨may, mcy, rfl⟩ := hf.1.form; obtain ⟨pay, pcy, rfl⟩ := hf.2.form; have HF := Lib.hid hf; have HX := Lib.hid hb; clear hf hb)
        have HX2 : Hid (Below V1.heap.size V1 (y2.alloc (.cells #[.slice may D.minus.length mcy, .slice pay D.plus.length pcy] 24))) := Lib.hid (HX.out.alloc HX.out.size _)
        have Py : Hid (PView (y2.alloc (.cells #[.slice may D.minus.length mcy, .slice pay D.plus.length pcy] 24)) (.slice may D.minus.length mcy) (.slice pay D.plus.length pcy) D) := Lib.hid (HF.out.below ((Below.refl _ _).alloc (Nat.le_refl _) _))
        have Ky : Hid ((y2.alloc (.cells #[.slice may D.minus.length mcy, .slice pay D.plus.length pcy] 24)).heap[y2.heap.size]? = some (.cells #[.slice may D.minus.length mcy, .slice pay D.plus.length pcy] 24 (0, 0))) := Lib.hid (heap_alloc_new _ _)
        have Px_ := Lib.hid (PFresh.below Px.out HX2.out)
        clear Px
        have Px := Px_
        clear Px_
        have Kx_ := Lib.hid (block_later Kx.out HX2.out)
        clear Kx
        have Kx := Kx_
        clear Kx_
        have HB8 := Lib.hid (HB7.out.trans (HX2.out.mono HB7.out.size))
        clear HB7
        have HB7 := HB8
        clear HB8
        clear HX HX2 HF o0 o1
        generalize hV2 : y2.alloc (.cells #[.slice may D.minus.length mcy, .slice pay D.plus.length pcy] 24) = V2 at HB7 Px Kx Py Ky ⊢
        clear hV2
        as_aux_lemma =>
          obtain ⟨o0, o1⟩ := (HM.out.below HB7.out).kc; obtain ⟨r0, r1⟩ := (HM.out.below HB7.out).kd
          go_upto_region 5 with (go_at_call 24; (with_reducible refine (A1.out _ HB7.out).mono ?_); rintro e y3 ⟨mz, pz, rfl, hf, hb⟩; obtain ⟨mau, mcu, rfl⟩ := hf.1.view.form; obtain ⟨pau, pcu, rfl⟩ := hf.2.1.view.form; have APxu := Lib.hid (And.intro (QOwn.apart Px.out.1 hf.1 (Nat.le_refl _)) (And.intro (QOwn.apart Px.out.1 (hf.2.1) (Nat.le_refl _)) (And.intro (QOwn.apart Px.out.2.1 hf.1 (Nat.le_refl _)) (QOwn.apart Px.out.2.1 hf.2.1 (Nat.le_refl _))))); have HF := Lib.hid (PFresh.less hf HB7.out.size); have HX := Lib.hid hb; clear hf hb)
          have HX2 : Hid (Below V2.heap.size V2 (y3.alloc (.cells #[.slice mau L.minus.length mcu, .slice pau L.plus.length pcu] 24))) := Lib.hid (HX.out.alloc HX.out.size _)
          have Pu : Hid (PFresh wc.heap.size (.slice mau L.minus.length mcu) (.slice pau L.plus.length pcu) L (y3.alloc (.cells #[.slice mau L.minus.length mcu, .slice pau L.plus.length pcu] 24))) := Lib.hid (HF.out.below ((Below.refl _ _).alloc (Nat.le_refl _) _))
          have Ku : Hid ((y3.alloc (.cells #[.slice mau L.minus.length mcu, .slice pau L.plus.length pcu] 24)).heap[y3.heap.size]? = some (.cells #[.slice mau L.minus.length mcu, .slice pau L.plus.length pcu] 24 (0, 0))) := Lib.hid (heap_alloc_new _ _)
          have Px_ := Lib.hid (PFresh.below Px.out HX2.out)
          clear Px
          have Px := Px_
          clear Px_
          have Kx_ := Lib.hid (block_later Kx.out HX2.out)
          clear Kx
          have Kx := Kx_
          clear Kx_
          have Py_ := Lib.hid (PView.below Py.out HX2.out)
          clear Py
          have Py := Py_
          clear Py_
          have Ky_ := Lib.hid (block_later Ky.out HX2.out)
          clear Ky
          have Ky := Ky_
          clear Ky_
          have HB8 := Lib.hid (HB7.out.trans (HX2.out.mono HB7.out.size))
          clear HB7
          have HB7 := HB8
          clear HB8
          clear HX HX2 HF o0 o1 r0 r1
          generalize hV3 : y3.alloc (.cells #[.slice mau L.minus.length mcu, .slice pau L.plus.length pcu] 24) = V3 at HB7 Px Kx Py Ky Pu Ku ⊢
          clear hV3
          as_aux_lemma =>
            obtain ⟨o0, o1⟩ := (HM.out.below HB7.out).kp; obtain ⟨r0, r1⟩ := (HM.out.below HB7.out).kq
            go_upto_region 6 with (go_at_call 25; (with_reducible refine (A2.out _ HB7.out).mono ?_); rintro e y4 ⟨mz, pz, rfl, hf, hb⟩; obtain ⟨mav, mcv, rfl⟩ := hf.1.view.form; obtain ⟨pav, pcv, rfl⟩ := hf.2.1.view.form; have HF := Lib.hid hf.view; have HX := Lib.hid hb; clear hf hb)
            have HX2 : Hid (Below V3.heap.size V3 (y4.alloc (.cells #[.slice mav L.minus.length mcv, .slice pav L.plus.length pcv] 24))) := Lib.hid (HX.out.alloc HX.out.size _)
            have Pv : Hid (PView (y4.alloc (.cells #[.slice mav L.minus.length mcv, .slice pav L.plus.length pcv] 24)) (.slice mav L.minus.length mcv) (.slice pav L.plus.length pcv) L) := Lib.hid (HF.out.below ((Below.refl _ _).alloc (Nat.le_refl _) _))
            have Kv : Hid ((y4.alloc (.cells #[.slice mav L.minus.length mcv, .slice pav L.plus.length pcv] 24)).heap[y4.heap.size]? = some (.cells #[.slice mav L.minus.length mcv, .slice pav L.plus.length pcv] 24 (0, 0))) := Lib.hid (heap_alloc_new _ _)
            have Px_ := Lib.hid (PFresh.below Px.out HX2.out)
            clear Px
            have Px := Px_
            clear Px_
            have Kx_ := Lib.hid (block_later Kx.out HX2.out)
            clear Kx
            have Kx := Kx_
            clear Kx_
            have Py_ := Lib.hid (PView.below Py.out HX2.out)
            clear Py
            have Py := Py_
            clear Py_
            have Ky_ := Lib.hid (block_later Ky.out HX2.out)
            clear Ky
            have Ky := Ky_
            clear Ky_
            have Pu_ := Lib.hid (PFresh.below Pu.out HX2.out)
            clear Pu
            have Pu := Pu_
            clear Pu_
            have Ku_ := Lib.hid (block_later Ku.out HX2.out)
            clear Ku
            have Ku := Ku_
            clear Ku_
            have HB8 := Lib.hid (HB7.out.trans (HX2.out.mono HB7.out.size))
            clear HB7
            have HB7 := HB8
            clear HB8
            clear HX HX2 HF o0 o1 r0 r1
            generalize hV4 : y4.alloc (.cells #[.slice mav L.minus.length mcv, .slice pav L.plus.length pcv] 24) = V4 at HB7 Px Kx Py Ky Pu Ku Pv Kv ⊢
            clear hV4
            as_aux_lemma =>
              obtain ⟨o0, o1⟩ := (HM.out.below HB7.out).kc; obtain ⟨r0, r1⟩ := (HM.out.below HB7.out).kd
              go_upto_region 7 with (go_at_call 26; (with_reducible refine (F1.out _ HB7.out).mono ?_); rintro e y5 ⟨mz, pz, rfl, hf, hb⟩; obtain ⟨mam, mcm, rfl⟩ := hf.1.view.form; obtain ⟨pam, pcm, rfl⟩ := hf.2.1.view.form; have APxm := Lib.hid (And.intro (QOwn.apart Px.out.1 hf.1 (Nat.le_refl _)) (And.intro (QOwn.apart Px.out.1 (hf.2.1) (Nat.le_refl _)) (And.intro (QOwn.apart Px.out.2.1 hf.1 (Nat.le_refl _)) (QOwn.apart Px.out.2.1 hf.2.1 (Nat.le_refl _))))); have APum := Lib.hid (And.intro (QOwn.apart Pu.out.1 hf.1 (Nat.le_refl _)) (And.intro (QOwn.apart Pu.out.1 (hf.2.1) (Nat.le_refl _)) (And.intro (QOwn.apart Pu.out.2.1 hf.1 (Nat.le_refl _)) (QOwn.apart Pu.out.2.1 hf.2.1 (Nat.le_refl _))))); have HF := Lib.hid (PFresh.less hf HB7.out.size); have HX := Lib.hid hb; clear hf hb)
              have HX2 : Hid (Below V4.heap.size V4 (y5.alloc (.cells #[.slice mam N.minus.length mcm, .slice pam N.plus.length pcm] 24))) := Lib.hid (HX.out.alloc HX.out.size _)
              have Pm : Hid (PFresh wc.heap.size (.slice mam N.minus.length mcm) (.slice pam N.plus.length pcm) N (y5.alloc (.cells #[.slice mam N.minus.length mcm, .slice pam N.plus.length pcm] 24))) := Lib.hid (HF.out.below ((Below.refl _ _).alloc (Nat.le_refl _) _))
              have Km : Hid ((y5.alloc (.cells #[.slice mam N.minus.length mcm, .slice pam N.plus.length pcm] 24)).heap[y5.heap.size]? = some (.cells #[.slice mam N.minus.length mcm, .slice pam N.plus.length pcm] 24 (0, 0))) := Lib.hid (heap_alloc_new _ _)
              have Px_ := Lib.hid (PFresh.below Px.out HX2.out)
              clear Px
              have Px := Px_
              clear Px_
              have Kx_ := Lib.hid (block_later Kx.out HX2.out)
              clear Kx
              have Kx := Kx_
              clear Kx_
              have Py_ := Lib.hid (PView.below Py.out HX2.out)
              clear Py
              have Py := Py_
              clear Py_
              have Ky_ := Lib.hid (block_later Ky.out HX2.out)
              clear Ky
              have Ky := Ky_
              clear Ky_
              have Pu_ := Lib.hid (PFresh.below Pu.out HX2.out)
              clear Pu
              have Pu := Pu_
              clear Pu_
              have Ku_ := Lib.hid (block_later Ku.out HX2.out)
              clear Ku
              have Ku := Ku_
              clear Ku_
              have Pv_ := Lib.hid (PView.below Pv.out HX2.out)
              clear Pv
              have Pv := Pv_
              clear Pv_
              have Kv_ := Lib.hid (block_later Kv.out HX2.out)
              clear Kv
              have Kv := Kv_
              clear Kv_
              have HB8 := Lib.hid (HB7.out.trans (HX2.out.mono HB7.out.size))
              clear HB7
              have HB7 := HB8
              clear HB8
              clear HX HX2 HF o0 o1 r0 r1
              generalize hV5 : y5.alloc (.cells #[.slice mam N.minus.length mcm, .slice pam N.plus.length pcm] 24) = V5 at HB7 Px Kx Py Ky Pu Ku Pv Kv Pm Km ⊢
              clear hV5
              as_aux_lemma =>
                obtain ⟨o0, o1⟩ := (HM.out.below HB7.out).kp; obtain ⟨r0, r1⟩ := (HM.out.below HB7.out).kq
                go_upto_region 8 with (go_at_call 27; (with_reducible refine (F2.out _ HB7.out).mono ?_); rintro e y6 ⟨mz, pz, rfl, hf, hb⟩; obtain ⟨man, mcn, rfl⟩ := hf.1.view.form; obtain ⟨pan, pcn, rfl⟩ := hf.2.1.view.form; have APxn := Lib.hid (And.intro (QOwn.apart Px.out.1 hf.1 (Nat.le_refl _)) (And.intro (QOwn.apart Px.out.1 (hf.2.1) (Nat.le_refl _)) (And.intro (QOwn.apart Px.out.2.1 hf.1 (Nat.le_refl _)) (QOwn.apart Px.out.2.1 hf.2.1 (Nat.le_refl _))))); have APun := Lib.hid (And.intro (QOwn.apart Pu.out.1 hf.1 (Nat.le_refl _)) (And.intro (QOwn.apart Pu.out.1 (hf.2.1) (Nat.le_refl _)) (And.intro (QOwn.apart Pu.out.2.1 hf.1 (Nat.le_refl _)) (QOwn.apart Pu.out.2.1 hf.2.1 (Nat.le_refl _))))); have APmn := Lib.hid (And.intro (QOwn.apart Pm.out.1 hf.1 (Nat.le_refl _)) (And.intro (QOwn.apart Pm.out.1 (hf.2.1) (Nat.le_refl _)) (And.intro (QOwn.apart Pm.out.2.1 hf.1 (Nat.le_refl _)) (QOwn.apart Pm.out.2.1 hf.2.1 (Nat.le_refl _))))); have HF := Lib.hid (PFresh.less hf HB7.out.size); have HX := Lib.hid hb; clear hf hb)
                have HX2 : Hid (Below V5.heap.size V5 (y6.alloc (.cells #[.slice man N.minus.length mcn, .slice pan N.plus.length pcn] 24))) := Lib.hid (HX.out.alloc HX.out.size _)
                have Pn : Hid (PFresh wc.heap.size (.slice man N.minus.length mcn) (.slice pan N.plus.length pcn) N (y6.alloc (.cells #[.slice man N.minus.length mcn, .slice pan N.plus.length pcn] 24))) := Lib.hid (HF.out.below ((Below.refl _ _).alloc (Nat.le_refl _) _))
                have Kn : Hid ((y6.alloc (.cells #[.slice man N.minus.length mcn, .slice pan N.plus.length pcn] 24)).heap[y6.heap.size]? = some (.cells #[.slice man N.minus.length mcn, .slice pan N.plus.length pcn] 24 (0, 0))) := Lib.hid (heap_alloc_new _ _)
                have Px_ := Lib.hid (PFresh.below Px.out HX2.out)
                clear Px
                have Px := Px_
                clear Px_
                have Kx_ := Lib.hid (block_later Kx.out HX2.out)
                clear Kx
                have Kx := Kx_
                clear Kx_
                have Py_ := Lib.hid (PView.below Py.out HX2.out)
                clear Py
                have Py := Py_
                clear Py_
                have Ky_ := Lib.hid (block_later Ky.out HX2.out)
                clear Ky
                have Ky := Ky_
                clear Ky_
                have Pu_ := Lib.hid (PFresh.below Pu.out HX2.out)
                clear Pu
                have Pu := Pu_
                clear Pu_
                have Ku_ := Lib.hid (block_later Ku.out HX2.out)
                clear Ku
                have Ku := Ku_
                clear Ku_
                have Pv_ := Lib.hid (PView.below Pv.out HX2.out)
                clear Pv
                have Pv := Pv_
                clear Pv_
                have Kv_ := Lib.hid (block_later Kv.out HX2.out)
                clear Kv
                have Kv := Kv_
                clear Kv_
                have Pm_ := Lib.hid (PFresh.below Pm.out HX2.out)
                clear Pm
                have Pm := Pm_
                clear Pm_
                have Km_ := Lib.hid (block_later Km.out HX2.out)
                clear Km
                have Km := Km_
                clear Km_
                have HB8 := Lib.hid (HB7.out.trans (HX2.out.mono HB7.out.size))
                clear HB7
                have HB7 := HB8
                clear HB8
                clear HX HX2 HF o0 o1 r0 r1
                generalize hV6 : y6.alloc (.cells #[.slice man N.minus.length mcn, .slice pan N.plus.length pcn] 24) = V6 at HB7 Px Kx Py Ky Pu Ku Pv Kv Pm Km Pn Kn ⊢
                clear hV6
                as_aux_lemma =>
                  have SM := Lib.hid (fun (u_ : World) (hb : Below V6.heap.size V6 u_) => same_t D _ _ _ _ u_ (Px.out.view.below hb) (Py.out.below hb) (by omega) (by omega))
                  have S1 := Lib.hid (fun (u_ : World) (hb : Below V6.heap.size V6 u_) => same_t L _ _ _ _ u_ (Pu.out.view.below hb) (Pv.out.below hb) (by omega) (by omega))
                  have S2 := Lib.hid (fun (u_ : World) (hb : Below V6.heap.size V6 u_) => same_t N _ _ _ _ u_ (Pm.out.view.below hb) (Pn.out.view.below hb) (by omega) (by omega))
                  have SB : Hid (∀ w', Below V6.heap.size V6 w' → w'.cell? ⟨y1.heap.size, 0, none⟩ = some (.slice max D.minus.length mcx) ∧ w'.cell? ⟨y1.heap.size, 1, none⟩ = some (.slice pax D.plus.length pcx) ∧ w'.cell? ⟨y2.heap.size, 0, none⟩ = some (.slice may D.minus.length mcy) ∧ w'.cell? ⟨y2.heap.size, 1, none⟩ = some (.slice pay D.plus.length pcy) ∧ w'.cell? ⟨y3.heap.size, 0, none⟩ = some (.slice mau L.minus.length mcu) ∧ w'.cell? ⟨y3.heap.size, 1, none⟩ = some (.slice pau L.plus.length pcu) ∧ w'.cell? ⟨y4.heap.size, 0, none⟩ = some (.slice mav L.minus.length mcv) ∧ w'.cell? ⟨y4.heap.size, 1, none⟩ = some (.slice pav L.plus.length pcv) ∧ w'.cell? ⟨y5.heap.size, 0, none⟩ = some (.slice mam N.minus.length mcm) ∧ w'.cell? ⟨y5.heap.size, 1, none⟩ = some (.slice pam N.plus.length pcm) ∧ w'.cell? ⟨y6.heap.size, 0, none⟩ = some (.slice man N.minus.length mcn) ∧ w'.cell? ⟨y6.heap.size, 1, none⟩ = some (.slice pan N.plus.length pcn)) := Lib.hid (fun w' hb => ⟨(row2 (block_later Kx.out hb)).1, (row2 (block_later Kx.out hb)).2.1, (row2 (block_later Ky.out hb)).1, (row2 (block_later Ky.out hb)).2.1, (row2 (block_later Ku.out hb)).1, (row2 (block_later Ku.out hb)).2.1, (row2 (block_later Kv.out hb)).1, (row2 (block_later Kv.out hb)).2.1, (row2 (block_later Km.out hb)).1, (row2 (block_later Km.out hb)).2.1, (row2 (block_later Kn.out hb)).1, (row2 (block_later Kn.out hb)).2.1⟩)
                  have HBV : Hid (Below V6.heap.size V6 V6) := Lib.hid (Below.refl _ _)
                  obtain ⟨bx0, bx1, by0, by1, bu0, bu1, bv0, bv1, bm0, bm1, bn0, bn1⟩ := SB.out _ HBV.out
                  go_upto_region 10 with (first | (go_at_call 14; (with_reducible refine (SM.out _ HBV.out).mono ?_); rintro e z1 ⟨rfl, hb⟩; have HB8 := Lib.hid (HBV.out.trans (hb.mono HBV.out.size)); clear HBV hb SM; have HBV := HB8; clear HB8; clear bx0 bx1 by0 by1 bu0 bu1 bv0 bv1 bm0 bm1 bn0 bn1; obtain ⟨bx0, bx1, by0, by1, bu0, bu1, bv0, bv1, bm0, bm1, bn0, bn1⟩ := SB.out _ HBV.out) | (go_at_call 14; (with_reducible refine (S1.out _ HBV.out).mono ?_); rintro e z2 ⟨rfl, hb⟩; have HB8 := Lib.hid (HBV.out.trans (hb.mono HBV.out.size)); clear HBV hb S1; have HBV := HB8; clear HB8; clear bx0 bx1 by0 by1 bu0 bu1 bv0 bv1 bm0 bm1 bn0 bn1; obtain ⟨bx0, bx1, by0, by1, bu0, bu1, bv0, bv1, bm0, bm1, bn0, bn1⟩ := SB.out _ HBV.out) | (go_at_call 14; (with_reducible refine (S2.out _ HBV.out).mono ?_); rintro e z3 ⟨rfl, hb⟩; have HB8 := Lib.hid (HBV.out.trans (hb.mono HBV.out.size)); clear HBV hb S2; have HBV := HB8; clear HB8; clear bx0 bx1 by0 by1 bu0 bu1 bv0 bv1 bm0 bm1 bn0 bn1; obtain ⟨bx0, bx1, by0, by1, bu0, bu1, bv0, bv1, bm0, bm1, bn0, bn1⟩ := SB.out _ HBV.out))
                  clear bx0 bx1 by0 by1 bu0 bu1 bv0 bv1 bm0 bm1 bn0 bn1
                  clear SB Py Ky Pv Kv D1 D2 A1 A2 F1 F2
                  have Px_ := Lib.hid (PFresh.below Px.out HBV.out)
                  clear Px
                  have Px := Px_
                  clear Px_
                  have Kx_ := Lib.hid (block_later Kx.out HBV.out)
                  clear Kx
                  have Kx := Kx_
                  clear Kx_
                  have Pu_ := Lib.hid (PFresh.below Pu.out HBV.out)
                  clear Pu
                  have Pu := Pu_
                  clear Pu_
                  have Ku_ := Lib.hid (block_later Ku.out HBV.out)
                  clear Ku
                  have Ku := Ku_
                  clear Ku_
                  have Pm_ := Lib.hid (PFresh.below Pm.out HBV.out)
                  clear Pm
                  have Pm := Pm_
                  clear Pm_
                  have Km_ := Lib.hid (block_later Km.out HBV.out)
                  clear Km
                  have Km := Km_
                  clear Km_
                  have Pn_ := Lib.hid (PFresh.below Pn.out HBV.out)
                  clear Pn
                  have Pn := Pn_
                  clear Pn_
                  have Kn_ := Lib.hid (block_later Kn.out HBV.out)
                  clear Kn
                  have Kn := Kn_
                  clear Kn_
                  have HB8 := Lib.hid (HB7.out.trans (HBV.out.mono HB7.out.size))
                  clear HB7
                  have HB7 := HB8
                  clear HB8
                  clear HBV
                  as_aux_lemma =>
                    have Axu : Hid (∀ k, (Value.slice max D.minus.length mcx).ownBlock = some k ∨ (Value.slice pax D.plus.length pcx).ownBlock = some k → k ≠ y3.heap.size) := Lib.hid (fun k hk => box_apart Px.out.1 Px.out.2.1 Ku.out hk)
                    have Axm : Hid (∀ k, (Value.slice max D.minus.length mcx).ownBlock = some k ∨ (Value.slice pax D.plus.length pcx).ownBlock = some k → k ≠ y5.heap.size) := Lib.hid (fun k hk => box_apart Px.out.1 Px.out.2.1 Km.out hk)
                    have Axn : Hid (∀ k, (Value.slice max D.minus.length mcx).ownBlock = some k ∨ (Value.slice pax D.plus.length pcx).ownBlock = some k → k ≠ y6.heap.size) := Lib.hid (fun k hk => box_apart Px.out.1 Px.out.2.1 Kn.out hk)
                    have Aum : Hid (∀ k, (Value.slice mau L.minus.length mcu).ownBlock = some k ∨ (Value.slice pau L.plus.length pcu).ownBlock = some k → k ≠ y5.heap.size) := Lib.hid (fun k hk => box_apart Pu.out.1 Pu.out.2.1 Km.out hk)
                    have Aun : Hid (∀ k, (Value.slice mau L.minus.length mcu).ownBlock = some k ∨ (Value.slice pau L.plus.length pcu).ownBlock = some k → k ≠ y6.heap.size) := Lib.hid (fun k hk => box_apart Pu.out.1 Pu.out.2.1 Kn.out hk)
                    obtain ⟨x0, x1, _, _⟩ := row2 Kx.out
                    have OV := Lib.hid (overP_l wc.heap.size D _ _ _ Px.out HB7.out.size ⟨lD1, lD2⟩)
                    have H0 := Lib.hid (own_lt Px.out.1)
                    have H1 := Lib.hid (own_lt Px.out.2.1)
                    go_upto_region 11 with (go_at_call 18; (with_reducible refine OV.out.mono ?_); rintro e t1 ⟨rfl, h2⟩; have H2 := Lib.hid h2; clear h2)
                    clear x0 x1 Kx OV
                    have HX := Lib.hid (H2.out.below HB7.out.size (own_base Px.out.1) (own_base Px.out.2.1))
                    have HB8 := Lib.hid (HB7.out.trans HX.out)
                    clear HB7 HX
                    have HB7 := HB8
                    clear HB8
                    have Pu_ : Hid (PFresh wc.heap.size (.slice mau L.minus.length mcu) (.slice pau L.plus.length pcu) L t1) := Lib.hid ⟨H2.out.own Pu.out.1 APxu.out.1 APxu.out.2.2.1, H2.out.own Pu.out.2.1 APxu.out.2.1 APxu.out.2.2.2, Pu.out.2.2⟩
                    clear Pu
                    have Pu := Pu_
                    clear Pu_
                    have Ku_ := Lib.hid (over2_kept Ku.out H2.out Axu.out)
                    clear Ku
                    have Ku := Ku_
                    clear Ku_
                    have Pm_ : Hid (PFresh wc.heap.size (.slice mam N.minus.length mcm) (.slice pam N.plus.length pcm) N t1) := Lib.hid ⟨H2.out.own Pm.out.1 APxm.out.1 APxm.out.2.2.1, H2.out.own Pm.out.2.1 APxm.out.2.1 APxm.out.2.2.2, Pm.out.2.2⟩
                    clear Pm
                    have Pm := Pm_
                    clear Pm_
                    have Km_ := Lib.hid (over2_kept Km.out H2.out Axm.out)
                    clear Km
                    have Km := Km_
                    clear Km_
                    have Pn_ : Hid (PFresh wc.heap.size (.slice man N.minus.length mcn) (.slice pan N.plus.length pcn) N t1) := Lib.hid ⟨H2.out.own Pn.out.1 APxn.out.1 APxn.out.2.2.1, H2.out.own Pn.out.2.1 APxn.out.2.1 APxn.out.2.2.2, Pn.out.2.2⟩
                    clear Pn
                    have Pn := Pn_
                    clear Pn_
                    have Kn_ := Lib.hid (over2_kept Kn.out H2.out Axn.out)
                    clear Kn
                    have Kn := Kn_
                    clear Kn_
                    clear Px H2 H0 H1
                    as_aux_lemma =>
                      obtain ⟨x0, x1, _, _⟩ := row2 Ku.out
                      have OV := Lib.hid (overP_l wc.heap.size L _ _ _ Pu.out HB7.out.size ⟨lL1, lL2⟩)
                      have H0 := Lib.hid (own_lt Pu.out.1)
                      have H1 := Lib.hid (own_lt Pu.out.2.1)
                      go_upto_region 12 with (go_at_call 18; (with_reducible refine OV.out.mono ?_); rintro e t2 ⟨rfl, h2⟩; have H2 := Lib.hid h2; clear h2)
                      clear x0 x1 Ku OV
                      have HX := Lib.hid (H2.out.below HB7.out.size (own_base Pu.out.1) (own_base Pu.out.2.1))
                      have HB8 := Lib.hid (HB7.out.trans HX.out)
                      clear HB7 HX
                      have HB7 := HB8
                      clear HB8
                      have Pm_ : Hid (PFresh wc.heap.size (.slice mam N.minus.length mcm) (.slice pam N.plus.length pcm) N t2) := Lib.hid ⟨H2.out.own Pm.out.1 APum.out.1 APum.out.2.2.1, H2.out.own Pm.out.2.1 APum.out.2.1 APum.out.2.2.2, Pm.out.2.2⟩
                      clear Pm
                      have Pm := Pm_
                      clear Pm_
                      have Km_ := Lib.hid (over2_kept Km.out H2.out Aum.out)
                      clear Km
                      have Km := Km_
                      clear Km_
                      have Pn_ : Hid (PFresh wc.heap.size (.slice man N.minus.length mcn) (.slice pan N.plus.length pcn) N t2) := Lib.hid ⟨H2.out.own Pn.out.1 APun.out.1 APun.out.2.2.1, H2.out.own Pn.out.2.1 APun.out.2.1 APun.out.2.2.2, Pn.out.2.2⟩
                      clear Pn
                      have Pn := Pn_
                      clear Pn_
                      have Kn_ := Lib.hid (over2_kept Kn.out H2.out Aun.out)
                      clear Kn
                      have Kn := Kn_
                      clear Kn_
                      clear Pu H2 H0 H1
                      as_aux_lemma =>
                        have S3 := Lib.hid (same_t N _ _ _ _ t2 Pm.out.view Pn.out.view (by omega) (by omega))
                        obtain ⟨bm0, bm1, _, _⟩ := row2 Km.out
                        obtain ⟨bn0, bn1, _, _⟩ := row2 Kn.out
                        clear Pm Pn Km Kn
                        go_wp2_with (first | (go_at_call 14; (with_reducible refine (S3.out).mono ?_); rintro e r1 ⟨rfl, hb⟩; have HB8 := Lib.hid (HB7.out.trans (hb.mono HB7.out.size)); clear HB7 hb; have HB7 := HB8; clear HB8; obtain ⟨o0, o1⟩ := (HM.out.below HB7.out).kc; obtain ⟨q0, q1⟩ := (HM.out.below HB7.out).kp) | (go_at_call 21; (with_reducible refine (KP.out _ HB7.out).mono ?_); rintro e r2 ⟨rfl, hb⟩; have HB8 := Lib.hid (HB7.out.trans (hb.mono HB7.out.size)); clear HB7 hb; have HB7 := HB8; clear HB8; clear o0 o1 q0 q1 KP; obtain ⟨o0, o1⟩ := (HM.out.below HB7.out).kd; obtain ⟨q0, q1⟩ := (HM.out.below HB7.out).kq) | (go_at_call 21; (with_reducible refine (KQ.out _ HB7.out).mono ?_); rintro e r3 ⟨rfl, hb⟩; have HB8 := Lib.hid (HB7.out.trans (hb.mono HB7.out.size)); clear HB7 hb; have HB7 := HB8; clear HB8))
                        go_ret
                        exact ⟨rfl, HBX.out.trans (HB7.out.mono HBX.out.size)⟩
end Go.Proofs.YthipcepgbegaiaaGreatDoor
