/-
  tesseraref23.Apply: contracts. By an AI agent.
-/
import Derived.Test.YthipcepgbegaiaaGreatDoorZRef23W1
import Derived.Deep.RegionHeld3
namespace Go.Proofs.YthipcepgbegaiaaGreatDoor
open Go.RowKit
set_option maxRecDepth 100000

set_option maxHeartbeats 4000000 in
theorem ref23Apply_l (force : Bool) (l : List QuadL) (v0 : Value) (p : PatchL) (mv pv : Value) (w : World) (h0 : QView w v0 l) (h : PView w mv pv p) (n0 : Neat l) (hN : NeatP p) :
    Calls Tryz.prog 12 #[v0, .agg #[mv, pv], .bool force] w fun e w' => ∃ v, e = .returned (.tuple #[v, .int .i64 (behindN (!force) l p).2]) ∧ QOwn w.heap.size v (behindN (!force) l p).1 w' ∧ Below w.heap.size w w' := by
  have V1 := Lib.hid (fun (u : World) (hb : Below w.heap.size w u) => refValidN_l l v0 u (h0.below hb) n0)
  have CK := Lib.hid (fun (u : World) (hb : Below w.heap.size w u) => ref23Check_l p mv pv u (h.below hb) hN)
  have M1 := Lib.hid (fun (u : World) (hb : Below w.heap.size w u) => ref23Minus_l p.minus l mv v0 u (h.1.below hb) (h0.below hb) (by have := hN.1.1; omega) (by have := n0.1; omega))
  have M2 := Lib.hid (fun (u : World) (hb : Below w.heap.size w u) => ref23Minus_l l p.minus v0 mv u (h0.below hb) (h.1.below hb) (by have := n0.1; omega) (by have := hN.1.1; omega))
  have ME := Lib.hid (fun (u : World) (hb : Below w.heap.size w u) => ref23Meet_l p.plus l pv v0 u (h.2.below hb) (h0.below hb) (by have := hN.2.1; omega) (by have := n0.1; omega))
  have UN := Lib.hid (fun (u : World) (hb : Below w.heap.size w u) (d : List QuadL) (v : Value) (hv : QView u v d) => fun (hd : d.length ≤ 2097152) => ref23Union_l d p.plus v pv u hv (h.2.below hb) hd (by have := hN.2.1; omega))
  have lenU : (unionS (minusS l p.minus) p.plus).length ≤ 1048576 := by
    have := unionS_len (minusS l p.minus) p.plus
    have := minusS_len l p.minus
    have := n0.1
    have := hN.2.1
    omega
  have lenM : (minusS l p.minus).length ≤ 2097152 := by
    have := minusS_len l p.minus
    have := n0.1
    omega
  have HD : Hid (∀ must, behindN must l p = if firstN (validF l).2 (checkN p) ≠ 0 then ([], firstN (validF l).2 (checkN p)) else if must = true ∧ ¬ (minusS p.minus l = [] ∧ meetS p.plus l = []) then ([], 230)
    else if 1048576 < (unionS (minusS l p.minus) p.plus).length then ([], 2) else (unionS (minusS l p.minus) p.plus, 0)) := Lib.hid (fun _ => rfl)
  obtain ⟨pa, ca, rfl⟩ := h0.form
  obtain ⟨pm, cm, rfl⟩ := h.1.form
  obtain ⟨pp, cp, rfl⟩ := h.2.form
  obtain ⟨W, hW⟩ : ∃ W, w.alloc (.cells #[.slice pm p.minus.length cm, .slice pp p.plus.length cp] 24) = W := ⟨_, rfl⟩
  have HB0 : Hid (Below w.heap.size w W) := Lib.hid (by rw [← hW]; exact (Below.refl _ _).alloc (Nat.le_refl _) _)
  have HB7 : Hid (Below W.heap.size W W) := Lib.hid (Below.refl _ _)
  have SB : Hid (∀ w', Below W.heap.size W w' → w'.cell? ⟨w.heap.size, 0, none⟩ = some (.slice pm p.minus.length cm) ∧ w'.cell? ⟨w.heap.size, 1, none⟩ = some (.slice pp p.plus.length cp)) := Lib.hid (fun w' hb => by rw [← hW] at hb; exact held_box hb)
  obtain ⟨c0, c1⟩ := SB.out _ HB7.out
  clear h0 h n0 hN
  obtain ⟨y, hy⟩ : ∃ y, validF l = y := ⟨_, rfl⟩
  obtain ⟨y1, n1⟩ := y
  rw [hy] at V1 HD
  obtain ⟨n2, h2⟩ : ∃ n, checkN p = n := ⟨_, rfl⟩
  rw [h2] at CK HD
  clear hy h2
  by_cases e1 : n1 = 0
  case neg =>
    as_aux_lemma =>
    have q1 := (kneR e1).2
    have q1b := (kneR e1).1
    have HE : Hid (behindN (!force) l p = ([], n1)) := Lib.hid (by rw [HD.out]; unfold firstN; simp only [if_pos (c := n1 ≠ 0) e1])
    clear HD e1 lenU lenM
    go_enter Tryz.func12, Tryz.ntmps12
    go_wp2_with (go_at_call 39; (with_reducible refine (V1.out _ ?hb).mono ?_); (case hb => exact HB0.out.trans (HB7.out.mono HB0.out.size)); rintro e w3 ⟨rfl, hb3⟩; have HB8 := Lib.hid (HB7.out.trans (hb3.mono HB7.out.size)); clear HB7 hb3; have HB7 := HB8; clear HB8; obtain ⟨c0, c1⟩ := SB.out _ HB7.out)
    go_ret2
    exact ⟨.slice none 0 0, by rw [HE.out]; rfl, by rw [HE.out]; exact QOwn.nil _ _, HB0.out.trans (HB7.out.mono HB0.out.size)⟩
  subst e1
  by_cases e2 : n2 = 0
  case neg =>
    as_aux_lemma =>
    have q1 := (kneR e2).2
    have HE : Hid (behindN (!force) l p = ([], n2)) := Lib.hid (by rw [HD.out]; unfold firstN; simp only [if_neg (c := (0 : Int) ≠ 0) (fun h => h rfl), if_pos (c := n2 ≠ 0) e2])
    clear HD e2 lenU lenM
    go_enter Tryz.func12, Tryz.ntmps12
    go_wp2_with (first | (go_at_call 39; (with_reducible refine (V1.out _ ?hb).mono ?_); (case hb => exact HB0.out.trans (HB7.out.mono HB0.out.size)); rintro e w3 ⟨rfl, hb3⟩; have HB8 := Lib.hid (HB7.out.trans (hb3.mono HB7.out.size)); clear HB7 hb3; have HB7 := HB8; clear HB8; obtain ⟨c0, c1⟩ := SB.out _ HB7.out) | (go_at_call 17; (with_reducible refine (CK.out _ ?hb).mono ?_); (case hb => exact HB0.out.trans (HB7.out.mono HB0.out.size)); rintro e w4 ⟨rfl, hb4⟩; have HB8 := Lib.hid (HB7.out.trans (hb4.mono HB7.out.size)); clear HB7 hb4; have HB7 := HB8; clear HB8; obtain ⟨c0, c1⟩ := SB.out _ HB7.out))
    go_ret2
    exact ⟨.slice none 0 0, by rw [HE.out]; rfl, by rw [HE.out]; exact QOwn.nil _ _, HB0.out.trans (HB7.out.mono HB0.out.size)⟩
  subst e2
  have HD2 : Hid (∀ must, behindN must l p = if must = true ∧ ¬ (minusS p.minus l = [] ∧ meetS p.plus l = []) then ([], 230) else (unionS (minusS l p.minus) p.plus, 0)) := Lib.hid (fun must => by
    rw [HD.out, if_neg (c := firstN _ _ ≠ 0) (fun h => h rfl), if_neg (c := 1048576 < (unionS (minusS l p.minus) p.plus).length) (by omega)])
  clear HD
  have U0 : decide ((1048576 : Int) < ((unionS (minusS l p.minus) p.plus).length : Int)) = false := decide_eq_false (by omega)
  clear lenU
  cases force with
  | true =>
    as_aux_lemma =>
    have HE : Hid (behindN (!true) l p = (unionS (minusS l p.minus) p.plus, 0)) := Lib.hid (by rw [HD2.out, if_neg (fun h => by cases h.1)])
    clear HD2
    go_enter Tryz.func12, Tryz.ntmps12
    go_upto_region 8 with (first | (go_at_call 39; (with_reducible refine (V1.out _ ?hb).mono ?_); (case hb => exact HB0.out.trans (HB7.out.mono HB0.out.size)); rintro e w3 ⟨rfl, hb3⟩; have HB8 := Lib.hid (HB7.out.trans (hb3.mono HB7.out.size)); clear HB7 hb3; have HB7 := HB8; clear HB8; obtain ⟨c0, c1⟩ := SB.out _ HB7.out) | (go_at_call 17; (with_reducible refine (CK.out _ ?hb).mono ?_); (case hb => exact HB0.out.trans (HB7.out.mono HB0.out.size)); rintro e w4 ⟨rfl, hb4⟩; have HB8 := Lib.hid (HB7.out.trans (hb4.mono HB7.out.size)); clear HB7 hb4; have HB7 := HB8; clear HB8; obtain ⟨c0, c1⟩ := SB.out _ HB7.out))
    clear c0 c1
    have HB9 := Lib.hid (below_drewN _ 1 |> fun h => HB7.out.trans (h.mono HB7.out.size))
    clear HB7
    have HB7 := HB9
    clear HB9
    go_region_held3 (fun w' => w'.cell? ⟨w.heap.size, 0, none⟩ = some (.slice pm p.minus.length cm) ∧ w'.cell? ⟨w.heap.size, 1, none⟩ = some (.slice pp p.plus.length cp)) (first | exact SB.out _ HB7.out | exact SB.out _ (HB7.out.alloc HB7.out.size _)) (first | (go_at_call 40; (with_reducible refine (M2.out _ ?hb).mono ?_); (case hb => exact HB0.out.trans (HB7.out.mono HB0.out.size)); rintro e w9 ⟨vv, rfl, ho, hb9⟩; obtain ⟨qa9, qc9, rfl⟩ := ho.view.form; have HO9 := Lib.hid ho; have HX9 := Lib.hid hb9; have HP9 := HB7; clear ho; have HB8 := Lib.hid (HB7.out.trans (hb9.mono HB7.out.size)); clear HB7 hb9; have HB7 := HB8; clear HB8) | (go_at_call 43; (with_reducible refine (UN.out _ ?hb _ _ HO9.out.view lenM).mono ?_); (case hb => exact HB0.out.trans (HB7.out.mono HB0.out.size)); rintro e w10 ⟨vv, rfl, ho, hb10⟩; obtain ⟨qa10, qc10, rfl⟩ := ho.view.form; have HO10 := Lib.hid ho; have HX10 := Lib.hid (HB0.out.trans (HB7.out.mono HB0.out.size)); clear ho; have HB8 := Lib.hid (HB7.out.trans (hb10.mono HB7.out.size)); clear HB7 hb10; have HB7 := HB8; clear HB8))
    go_wp2_with fail
    go_ret2
    exact ⟨_, by rw [HE.out]; rfl, by rw [HE.out]; exact HO10.out.less HX10.out.size, HB0.out.trans (HB7.out.mono HB0.out.size)⟩
  | false =>
    by_cases h1 : 0 < (minusS p.minus l).length
    · as_aux_lemma =>
      have HE : Hid (behindN (!false) l p = ([], 230)) := Lib.hid (by rw [HD2.out, if_pos ⟨rfl, fun h => by rw [h.1] at h1; simp at h1⟩])
      have t1 : decide ((0 : Int) < ((minusS p.minus l).length : Int)) = true := decide_eq_true (by omega)
      have t1n : decide (0 < (minusS p.minus l).length) = true := decide_eq_true (by omega)
      clear HD2 U0 lenM h1
      go_enter Tryz.func12, Tryz.ntmps12
      go_wp2_with (first | (go_at_call 39; (with_reducible refine (V1.out _ ?hb).mono ?_); (case hb => exact HB0.out.trans (HB7.out.mono HB0.out.size)); rintro e w3 ⟨rfl, hb3⟩; have HB8 := Lib.hid (HB7.out.trans (hb3.mono HB7.out.size)); clear HB7 hb3; have HB7 := HB8; clear HB8; obtain ⟨c0, c1⟩ := SB.out _ HB7.out) | (go_at_call 17; (with_reducible refine (CK.out _ ?hb).mono ?_); (case hb => exact HB0.out.trans (HB7.out.mono HB0.out.size)); rintro e w4 ⟨rfl, hb4⟩; have HB8 := Lib.hid (HB7.out.trans (hb4.mono HB7.out.size)); clear HB7 hb4; have HB7 := HB8; clear HB8; obtain ⟨c0, c1⟩ := SB.out _ HB7.out) | (go_at_call 40; (with_reducible refine (M1.out _ ?hb).mono ?_); (case hb => exact HB0.out.trans (HB7.out.mono HB0.out.size)); rintro e w6 ⟨vv, rfl, ho, hb6⟩; obtain ⟨qa6, qc6, rfl⟩ := ho.view.form; clear ho; have HB8 := Lib.hid (HB7.out.trans (hb6.mono HB7.out.size)); clear HB7 hb6; have HB7 := HB8; clear HB8; obtain ⟨c0, c1⟩ := SB.out _ HB7.out))
      go_ret2
      exact ⟨.slice none 0 0, by rw [HE.out]; rfl, by rw [HE.out]; exact QOwn.nil _ _, HB0.out.trans (HB7.out.mono HB0.out.size)⟩
    · have t1 : decide ((0 : Int) < ((minusS p.minus l).length : Int)) = false := decide_eq_false (by omega)
      have t1n : decide (0 < (minusS p.minus l).length) = false := decide_eq_false (by omega)
      by_cases h2 : 0 < (meetS p.plus l).length
      · as_aux_lemma =>
        have HE : Hid (behindN (!false) l p = ([], 230)) := Lib.hid (by rw [HD2.out, if_pos ⟨rfl, fun h => by rw [h.2] at h2; simp at h2⟩])
        have t2 : decide ((0 : Int) < ((meetS p.plus l).length : Int)) = true := decide_eq_true (by omega)
        have t2n : decide (0 < (meetS p.plus l).length) = true := decide_eq_true (by omega)
        clear HD2 U0 lenM h1 h2
        go_enter Tryz.func12, Tryz.ntmps12
        go_wp2_with (first | (go_at_call 39; (with_reducible refine (V1.out _ ?hb).mono ?_); (case hb => exact HB0.out.trans (HB7.out.mono HB0.out.size)); rintro e w3 ⟨rfl, hb3⟩; have HB8 := Lib.hid (HB7.out.trans (hb3.mono HB7.out.size)); clear HB7 hb3; have HB7 := HB8; clear HB8; obtain ⟨c0, c1⟩ := SB.out _ HB7.out) | (go_at_call 17; (with_reducible refine (CK.out _ ?hb).mono ?_); (case hb => exact HB0.out.trans (HB7.out.mono HB0.out.size)); rintro e w4 ⟨rfl, hb4⟩; have HB8 := Lib.hid (HB7.out.trans (hb4.mono HB7.out.size)); clear HB7 hb4; have HB7 := HB8; clear HB8; obtain ⟨c0, c1⟩ := SB.out _ HB7.out) | (go_at_call 40; (with_reducible refine (M1.out _ ?hb).mono ?_); (case hb => exact HB0.out.trans (HB7.out.mono HB0.out.size)); rintro e w6 ⟨vv, rfl, ho, hb6⟩; obtain ⟨qa6, qc6, rfl⟩ := ho.view.form; clear ho; have HB8 := Lib.hid (HB7.out.trans (hb6.mono HB7.out.size)); clear HB7 hb6; have HB7 := HB8; clear HB8; obtain ⟨c0, c1⟩ := SB.out _ HB7.out) | (go_at_call 42; (with_reducible refine (ME.out _ ?hb).mono ?_); (case hb => exact HB0.out.trans (HB7.out.mono HB0.out.size)); rintro e w7 ⟨vv, rfl, ho, hb7⟩; obtain ⟨qa7, qc7, rfl⟩ := ho.view.form; clear ho; have HB8 := Lib.hid (HB7.out.trans (hb7.mono HB7.out.size)); clear HB7 hb7; have HB7 := HB8; clear HB8; obtain ⟨c0, c1⟩ := SB.out _ HB7.out))
        go_ret2
        exact ⟨.slice none 0 0, by rw [HE.out]; rfl, by rw [HE.out]; exact QOwn.nil _ _, HB0.out.trans (HB7.out.mono HB0.out.size)⟩
      · as_aux_lemma =>
        have HE : Hid (behindN (!false) l p = (unionS (minusS l p.minus) p.plus, 0)) := Lib.hid (by rw [HD2.out, if_neg (fun h => h.2 ⟨List.eq_nil_of_length_eq_zero (by omega), List.eq_nil_of_length_eq_zero (by omega)⟩)])
        have t2 : decide ((0 : Int) < ((meetS p.plus l).length : Int)) = false := decide_eq_false (by omega)
        have t2n : decide (0 < (meetS p.plus l).length) = false := decide_eq_false (by omega)
        clear HD2 h1 h2
        go_enter Tryz.func12, Tryz.ntmps12
        go_upto_region 8 with (first | (go_at_call 39; (with_reducible refine (V1.out _ ?hb).mono ?_); (case hb => exact HB0.out.trans (HB7.out.mono HB0.out.size)); rintro e w3 ⟨rfl, hb3⟩; have HB8 := Lib.hid (HB7.out.trans (hb3.mono HB7.out.size)); clear HB7 hb3; have HB7 := HB8; clear HB8; obtain ⟨c0, c1⟩ := SB.out _ HB7.out) | (go_at_call 17; (with_reducible refine (CK.out _ ?hb).mono ?_); (case hb => exact HB0.out.trans (HB7.out.mono HB0.out.size)); rintro e w4 ⟨rfl, hb4⟩; have HB8 := Lib.hid (HB7.out.trans (hb4.mono HB7.out.size)); clear HB7 hb4; have HB7 := HB8; clear HB8; obtain ⟨c0, c1⟩ := SB.out _ HB7.out) | (go_at_call 40; (with_reducible refine (M1.out _ ?hb).mono ?_); (case hb => exact HB0.out.trans (HB7.out.mono HB0.out.size)); rintro e w6 ⟨vv, rfl, ho, hb6⟩; obtain ⟨qa6, qc6, rfl⟩ := ho.view.form; clear ho; have HB8 := Lib.hid (HB7.out.trans (hb6.mono HB7.out.size)); clear HB7 hb6; have HB7 := HB8; clear HB8; obtain ⟨c0, c1⟩ := SB.out _ HB7.out) | (go_at_call 42; (with_reducible refine (ME.out _ ?hb).mono ?_); (case hb => exact HB0.out.trans (HB7.out.mono HB0.out.size)); rintro e w7 ⟨vv, rfl, ho, hb7⟩; obtain ⟨qa7, qc7, rfl⟩ := ho.view.form; clear ho; have HB8 := Lib.hid (HB7.out.trans (hb7.mono HB7.out.size)); clear HB7 hb7; have HB7 := HB8; clear HB8; obtain ⟨c0, c1⟩ := SB.out _ HB7.out))
        clear c0 c1
        have HB9 := Lib.hid (below_drewN _ 1 |> fun h => HB7.out.trans (h.mono HB7.out.size))
        clear HB7
        have HB7 := HB9
        clear HB9
        go_region_held3 (fun w' => w'.cell? ⟨w.heap.size, 0, none⟩ = some (.slice pm p.minus.length cm) ∧ w'.cell? ⟨w.heap.size, 1, none⟩ = some (.slice pp p.plus.length cp)) (first | exact SB.out _ HB7.out | exact SB.out _ (HB7.out.alloc HB7.out.size _)) (first | (go_at_call 40; (with_reducible refine (M2.out _ ?hb).mono ?_); (case hb => exact HB0.out.trans (HB7.out.mono HB0.out.size)); rintro e w9 ⟨vv, rfl, ho, hb9⟩; obtain ⟨qa9, qc9, rfl⟩ := ho.view.form; have HO9 := Lib.hid ho; have HX9 := Lib.hid hb9; have HP9 := HB7; clear ho; have HB8 := Lib.hid (HB7.out.trans (hb9.mono HB7.out.size)); clear HB7 hb9; have HB7 := HB8; clear HB8) | (go_at_call 43; (with_reducible refine (UN.out _ ?hb _ _ HO9.out.view lenM).mono ?_); (case hb => exact HB0.out.trans (HB7.out.mono HB0.out.size)); rintro e w10 ⟨vv, rfl, ho, hb10⟩; obtain ⟨qa10, qc10, rfl⟩ := ho.view.form; have HO10 := Lib.hid ho; have HX10 := Lib.hid (HB0.out.trans (HB7.out.mono HB0.out.size)); clear ho; have HB8 := Lib.hid (HB7.out.trans (hb10.mono HB7.out.size)); clear HB7 hb10; have HB7 := HB8; clear HB8))
        go_wp2_with fail
        go_ret2
        exact ⟨_, by rw [HE.out]; rfl, by rw [HE.out]; exact HO10.out.less HX10.out.size, HB0.out.trans (HB7.out.mono HB0.out.size)⟩
end Go.Proofs.YthipcepgbegaiaaGreatDoor
