/-
  patch.behind, Apply, Force: contracts. By an AI agent.
-/
import Derived.Test.YthipcepgbegaiaaGreatDoorZPatchK
import Derived.Deep.RegionHeld3
namespace Go.Proofs.YthipcepgbegaiaaGreatDoor
open Go.RowKit
set_option maxRecDepth 100000

theorem step_below {W u w3 : World} {o : Obj} (h : Below W.heap.size W u) (hb : Below (u.alloc o).heap.size (u.alloc o) w3) : Below W.heap.size W w3 := (h.alloc h.size _).trans (hb.mono (by simp; have := h.size; omega))
theorem unionS_len (a b : List QuadL) : (unionS a b).length ≤ a.length + b.length := by
  unfold unionS
  split
  · exact mergeF_len _ _ _ _ a b (Nat.le_refl _)
  · simp
theorem minusS_len (a b : List QuadL) : (minusS a b).length ≤ a.length := by
  cases h : riseB a && riseB b with
  | false => unfold minusS; rw [h]; simp
  | true =>
    rw [Bool.and_eq_true, riseB_iff, riseB_iff] at h
    exact minus_len h.1 h.2
theorem held_box {w w' : World} {x y : Value} {T : TypeId} (h : Below (w.alloc (.cells #[x, y] T)).heap.size (w.alloc (.cells #[x, y] T)) w') : w'.cell? ⟨w.heap.size, 0, none⟩ = some x ∧ w'.cell? ⟨w.heap.size, 1, none⟩ = some y :=
  ⟨(Box2.mk0.later h).c0, (Box2.mk0.later h).c1⟩

set_option maxHeartbeats 4000000 in
theorem behind_l (O : SetOK) (must : Bool) (l : List QuadL) (v0 : Value) (p : PatchL) (mv pv : Value) (w : World) (hT : TabAt w) (hM : MaxAt w) (h0 : QView w v0 l) (h : PView w mv pv p) (n0 : Neat l) (hN : NeatP p) :
    Calls Tryz.prog 41 #[v0, .agg #[mv, pv], .bool must] w fun e w' => ∃ v, e = .returned (.tuple #[v, .int .i64 (behindN must l p).2]) ∧ QOwn w.heap.size v (behindN must l p).1 w' ∧ Below w.heap.size w w' := by
  have V1 := Lib.hid (fun (g : Nat) (u : World) (hb : Below w.heap.size w u) (c0 : u.cell? ⟨g, 0, none⟩ = some v0) => patchValid1_l l v0 g u (hT.below hb) (hM.below hb) c0 (h0.below hb) n0)
  have CK := Lib.hid (fun (u : World) (hb : Below w.heap.size w u) => patchCheck_l O p mv pv u (hT.below hb) (hM.below hb) (h.below hb) hN)
  have M1 := Lib.hid (fun (u : World) (hb : Below w.heap.size w u) => O.minus p.minus l mv v0 u (h.1.below hb) (h0.below hb) (by have := hN.1.1; omega) (by have := n0.1; omega))
  have M2 := Lib.hid (fun (u : World) (hb : Below w.heap.size w u) => O.minus l p.minus v0 mv u (h0.below hb) (h.1.below hb) (by have := n0.1; omega) (by have := hN.1.1; omega))
  have ME := Lib.hid (fun (u : World) (hb : Below w.heap.size w u) => O.meet p.plus l pv v0 u (h.2.below hb) (h0.below hb) (by have := hN.2.1; omega) (by have := n0.1; omega))
  have UN := Lib.hid (fun (u : World) (hb : Below w.heap.size w u) (d : List QuadL) (v : Value) (hv : QView u v d) => fun (hd : d.length ≤ 2097152) => O.union d p.plus v pv u hv (h.2.below hb) hd (by have := hN.2.1; omega))
  have lenU : (unionS (minusS l p.minus) p.plus).length ≤ 1048576 := by
    have := unionS_len (minusS l p.minus) p.plus
    have := minusS_len l p.minus
    have := n0.1
    have := hN.2.1
    omega
  have lenM : (minusS l p.minus).length ≤ 2097152 := by
    have := minusS_len l p.minus
    have := n0.1
    omega
  have OR := Lib.hid (fun (g : Nat) (u : World) => orErr_l (validF l).2 (checkN p) g u)
  have HD : Hid (behindN must l p = if firstN (validF l).2 (checkN p) ≠ 0 then ([], firstN (validF l).2 (checkN p)) else if must = true ∧ ¬ (minusS p.minus l = [] ∧ meetS p.plus l = []) then ([], 230)
    else if 1048576 < (unionS (minusS l p.minus) p.plus).length then ([], 2) else (unionS (minusS l p.minus) p.plus, 0)) := Lib.hid rfl
  obtain ⟨pa, ca, rfl⟩ := h0.form
  obtain ⟨pm, cm, rfl⟩ := h.1.form
  obtain ⟨pp, cp, rfl⟩ := h.2.form
  have HB0 : Hid (Below w.heap.size w (w.alloc (.cells #[.slice pm p.minus.length cm, .slice pp p.plus.length cp] 24))) := Lib.hid ((Below.refl _ _).alloc (Nat.le_refl _) _)
  have SB0 : Hid (∀ w', Below (w.alloc (.cells #[.slice pm p.minus.length cm, .slice pp p.plus.length cp] 24)).heap.size (w.alloc (.cells #[.slice pm p.minus.length cm, .slice pp p.plus.length cp] 24)) w' → w'.cell? ⟨w.heap.size, 0, none⟩ = some (.slice pm p.minus.length cm) ∧ w'.cell? ⟨w.heap.size, 1, none⟩ = some (.slice pp p.plus.length cp)) := Lib.hid (fun w' h => held_box h)
  clear hT hM h0 h n0 hN O
  obtain ⟨n, hn⟩ : ∃ n, firstN (validF l).2 (checkN p) = n := ⟨_, rfl⟩
  rw [hn] at HD
  rw [orI_firstN, hn] at OR
  clear hn
  obtain ⟨W, hW⟩ : ∃ W, w.alloc (.cells #[.slice pm p.minus.length cm, .slice pp p.plus.length cp] 24) = W := ⟨_, rfl⟩
  rw [hW] at HB0 SB0
  have SB := SB0
  clear SB0
  have HB7 : Hid (Below W.heap.size W W.drew) := Lib.hid (below_drewN W 1)
  by_cases n0 : n = 0
  · have q9 : (n != 0) = false := by rw [n0]; rfl
    have HD2 : Hid (behindN must l p = if must = true ∧ ¬ (minusS p.minus l = [] ∧ meetS p.plus l = []) then ([], 230) else (unionS (minusS l p.minus) p.plus, 0)) := Lib.hid (by
      rw [HD.out, if_neg (fun h => h n0), if_neg (c := 1048576 < (unionS (minusS l p.minus) p.plus).length) (by omega)])
    clear HD n0
    have st : (must = false) ∨ (must = true ∧ 0 < (minusS p.minus l).length) ∨ (must = true ∧ (minusS p.minus l).length = 0 ∧ 0 < (meetS p.plus l).length) ∨ (must = true ∧ (minusS p.minus l).length = 0 ∧ (meetS p.plus l).length = 0) := by
      rcases Bool.eq_false_or_eq_true must with h | h
      · by_cases e1 : 0 < (minusS p.minus l).length
        · exact .inr (.inl ⟨h, e1⟩)
        · by_cases e2 : 0 < (meetS p.plus l).length
          · exact .inr (.inr (.inl ⟨h, by omega, e2⟩))
          · exact .inr (.inr (.inr ⟨h, by omega, by omega⟩))
      · exact .inl h
    have U0 : decide ((1048576 : Int) < ((unionS (minusS l p.minus) p.plus).length : Int)) = false := decide_eq_false (by omega)
    rcases st with rfl | ⟨rfl, h1⟩ | ⟨rfl, h1, h2⟩ | ⟨rfl, h1, h2⟩
    · as_aux_lemma =>
      have HE : Hid (behindN false l p = (unionS (minusS l p.minus) p.plus, 0)) := Lib.hid (by rw [HD2.out, if_neg (fun h => by cases h.1)])
      clear HD2
      go_enter Tryz.func41, Tryz.ntmps41
      go_wp2_with fail
      go_region_held3 (fun w' => w'.cell? ⟨w.heap.size, 0, none⟩ = some (.slice pm p.minus.length cm) ∧ w'.cell? ⟨w.heap.size, 1, none⟩ = some (.slice pp p.plus.length cp)) (first | exact SB.out _ HB7.out | exact SB.out _ (HB7.out.alloc HB7.out.size _)) (first | (go_at_call 37; (with_reducible refine (V1.out _ _ ?hb ?c0).mono ?_); (case hb => exact HB0.out.trans ((HB7.out.alloc HB7.out.size _).mono HB0.out.size)); (case c0 => go_simp); rintro e w3 ⟨rfl, hb3⟩; have HB8 := Lib.hid (step_below HB7.out hb3); clear HB7 hb3; have HB7 := HB8; clear HB8) | (go_at_call 16; (with_reducible refine (CK.out _ ?hb).mono ?_); (case hb => exact HB0.out.trans (HB7.out.mono HB0.out.size)); rintro e w4 ⟨rfl, hb4⟩; have HB8 := Lib.hid (HB7.out.trans (hb4.mono HB7.out.size)); clear HB7 hb4; have HB7 := HB8; clear HB8) | (go_at_call 45; (with_reducible refine (OR.out _ _ ?c0 ?c1).mono ?_); (case c0 => go_simp); (case c1 => go_simp); rintro e w5 ⟨rfl, rfl⟩))
      have HB9 := Lib.hid (HB7.out.alloc HB7.out.size (.cells #[.int .i64 (validF l).2, .int .i64 (checkN p)] 27))
      clear HB7
      have HB7 := HB9
      clear HB9
      obtain ⟨c0, c1⟩ := SB.out _ HB7.out
      go_wp2_with fail
      clear c0 c1
      have HB9 := Lib.hid (below_drewN _ 1 |> fun h => HB7.out.trans (h.mono HB7.out.size))
      clear HB7
      have HB7 := HB9
      clear HB9
      go_region_held3 (fun w' => w'.cell? ⟨w.heap.size, 0, none⟩ = some (.slice pm p.minus.length cm) ∧ w'.cell? ⟨w.heap.size, 1, none⟩ = some (.slice pp p.plus.length cp)) (first | exact SB.out _ HB7.out | exact SB.out _ (HB7.out.alloc HB7.out.size _)) (first | (go_at_call 38; (with_reducible refine (M2.out _ ?hb).mono ?_); (case hb => exact HB0.out.trans (HB7.out.mono HB0.out.size)); rintro e w9 ⟨vv, rfl, ho, hb9⟩; obtain ⟨qa9, qc9, rfl⟩ := ho.view.form; have HO9 := Lib.hid ho; have HB8 := Lib.hid (HB7.out.trans (hb9.mono HB7.out.size)); have HX9 := Lib.hid hb9; clear HB7 ho hb9; have HB7 := HB8; clear HB8) | (go_at_call 46; (with_reducible refine (UN.out _ ?hb _ _ HO9.out.view lenM).mono ?_); (case hb => exact HB0.out.trans (HB7.out.mono HB0.out.size)); rintro e w10 ⟨vv, rfl, ho, hb10⟩; obtain ⟨qa10, qc10, rfl⟩ := ho.view.form; have HO10 := Lib.hid ho; have HB8 := Lib.hid (HB7.out.trans (hb10.mono HB7.out.size)); have HX10 := Lib.hid (HB0.out.trans (HB7.out.mono HB0.out.size)); clear HB7 ho hb10; have HB7 := HB8; clear HB8))
      go_wp2_with fail
      go_ret2
      exact ⟨_, by rw [HE.out]; rfl, by rw [HE.out]; exact HO10.out.less HX10.out.size, HB0.out.trans (HB7.out.mono HB0.out.size)⟩
    · as_aux_lemma =>
      have HE : Hid (behindN true l p = ([], 230)) := Lib.hid (by rw [HD2.out, if_pos ⟨rfl, fun h => by rw [h.1] at h1; simp at h1⟩])
      have t1 : decide ((0 : Int) < ((minusS p.minus l).length : Int)) = true := decide_eq_true (by omega)
      clear HD2 lenU U0
      go_enter Tryz.func41, Tryz.ntmps41
      go_wp2_with fail
      go_region_held3 (fun w' => w'.cell? ⟨w.heap.size, 0, none⟩ = some (.slice pm p.minus.length cm) ∧ w'.cell? ⟨w.heap.size, 1, none⟩ = some (.slice pp p.plus.length cp)) (first | exact SB.out _ HB7.out | exact SB.out _ (HB7.out.alloc HB7.out.size _)) (first | (go_at_call 37; (with_reducible refine (V1.out _ _ ?hb ?c0).mono ?_); (case hb => exact HB0.out.trans ((HB7.out.alloc HB7.out.size _).mono HB0.out.size)); (case c0 => go_simp); rintro e w3 ⟨rfl, hb3⟩; have HB8 := Lib.hid (step_below HB7.out hb3); clear HB7 hb3; have HB7 := HB8; clear HB8) | (go_at_call 16; (with_reducible refine (CK.out _ ?hb).mono ?_); (case hb => exact HB0.out.trans (HB7.out.mono HB0.out.size)); rintro e w4 ⟨rfl, hb4⟩; have HB8 := Lib.hid (HB7.out.trans (hb4.mono HB7.out.size)); clear HB7 hb4; have HB7 := HB8; clear HB8) | (go_at_call 45; (with_reducible refine (OR.out _ _ ?c0 ?c1).mono ?_); (case c0 => go_simp); (case c1 => go_simp); rintro e w5 ⟨rfl, rfl⟩))
      have HB9 := Lib.hid (HB7.out.alloc HB7.out.size (.cells #[.int .i64 (validF l).2, .int .i64 (checkN p)] 27))
      clear HB7
      have HB7 := HB9
      clear HB9
      obtain ⟨c0, c1⟩ := SB.out _ HB7.out
      go_wp2_with ((go_at_call 38; (with_reducible refine (M1.out _ ?hb).mono ?_); (case hb => exact HB0.out.trans (HB7.out.mono HB0.out.size)); rintro e w6 ⟨vv, rfl, ho, hb6⟩; obtain ⟨qa6, qc6, rfl⟩ := ho.view.form; have HO6 := Lib.hid ho; have HB8 := Lib.hid (HB7.out.trans (hb6.mono HB7.out.size)); have HX6 := Lib.hid hb6; clear HB7 ho hb6; have HB7 := HB8; clear HB8))
      go_ret2
      exact ⟨.slice none 0 0, by rw [HE.out]; rfl, by rw [HE.out]; exact QOwn.nil _ _, HB0.out.trans (HB7.out.mono HB0.out.size)⟩
    · as_aux_lemma =>
      have HE : Hid (behindN true l p = ([], 230)) := Lib.hid (by rw [HD2.out, if_pos ⟨rfl, fun h => by rw [h.2] at h2; simp at h2⟩])
      have t1 : decide ((0 : Int) < ((minusS p.minus l).length : Int)) = false := decide_eq_false (by omega)
      rw [decide_eq_true h2] at ME
      clear HD2 lenU U0
      go_enter Tryz.func41, Tryz.ntmps41
      go_wp2_with fail
      go_region_held3 (fun w' => w'.cell? ⟨w.heap.size, 0, none⟩ = some (.slice pm p.minus.length cm) ∧ w'.cell? ⟨w.heap.size, 1, none⟩ = some (.slice pp p.plus.length cp)) (first | exact SB.out _ HB7.out | exact SB.out _ (HB7.out.alloc HB7.out.size _)) (first | (go_at_call 37; (with_reducible refine (V1.out _ _ ?hb ?c0).mono ?_); (case hb => exact HB0.out.trans ((HB7.out.alloc HB7.out.size _).mono HB0.out.size)); (case c0 => go_simp); rintro e w3 ⟨rfl, hb3⟩; have HB8 := Lib.hid (step_below HB7.out hb3); clear HB7 hb3; have HB7 := HB8; clear HB8) | (go_at_call 16; (with_reducible refine (CK.out _ ?hb).mono ?_); (case hb => exact HB0.out.trans (HB7.out.mono HB0.out.size)); rintro e w4 ⟨rfl, hb4⟩; have HB8 := Lib.hid (HB7.out.trans (hb4.mono HB7.out.size)); clear HB7 hb4; have HB7 := HB8; clear HB8) | (go_at_call 45; (with_reducible refine (OR.out _ _ ?c0 ?c1).mono ?_); (case c0 => go_simp); (case c1 => go_simp); rintro e w5 ⟨rfl, rfl⟩))
      have HB9 := Lib.hid (HB7.out.alloc HB7.out.size (.cells #[.int .i64 (validF l).2, .int .i64 (checkN p)] 27))
      clear HB7
      have HB7 := HB9
      clear HB9
      obtain ⟨c0, c1⟩ := SB.out _ HB7.out
      go_wp2_with (first | (go_at_call 38; (with_reducible refine (M1.out _ ?hb).mono ?_); (case hb => exact HB0.out.trans (HB7.out.mono HB0.out.size)); rintro e w6 ⟨vv, rfl, ho, hb6⟩; obtain ⟨qa6, qc6, rfl⟩ := ho.view.form; have HO6 := Lib.hid ho; have HB8 := Lib.hid (HB7.out.trans (hb6.mono HB7.out.size)); have HX6 := Lib.hid hb6; clear HB7 ho hb6; have HB7 := HB8; clear HB8; obtain ⟨c0, c1⟩ := SB.out _ HB7.out) | (go_at_call 44; (with_reducible refine (ME.out _ ?hb).mono ?_); (case hb => exact HB0.out.trans (HB7.out.mono HB0.out.size)); rintro e w7 ⟨rfl, hb7⟩; have HB8 := Lib.hid (HB7.out.trans (hb7.mono HB7.out.size)); clear HB7 hb7; have HB7 := HB8; clear HB8))
      go_ret2
      exact ⟨.slice none 0 0, by rw [HE.out]; rfl, by rw [HE.out]; exact QOwn.nil _ _, HB0.out.trans (HB7.out.mono HB0.out.size)⟩
    · as_aux_lemma =>
      have HE : Hid (behindN true l p = (unionS (minusS l p.minus) p.plus, 0)) := Lib.hid (by rw [HD2.out, if_neg (fun h => h.2 ⟨List.eq_nil_of_length_eq_zero h1, List.eq_nil_of_length_eq_zero h2⟩)])
      have t1 : decide ((0 : Int) < ((minusS p.minus l).length : Int)) = false := decide_eq_false (by omega)
      rw [decide_eq_false (by omega)] at ME
      clear HD2
      go_enter Tryz.func41, Tryz.ntmps41
      go_wp2_with fail
      go_region_held3 (fun w' => w'.cell? ⟨w.heap.size, 0, none⟩ = some (.slice pm p.minus.length cm) ∧ w'.cell? ⟨w.heap.size, 1, none⟩ = some (.slice pp p.plus.length cp)) (first | exact SB.out _ HB7.out | exact SB.out _ (HB7.out.alloc HB7.out.size _)) (first | (go_at_call 37; (with_reducible refine (V1.out _ _ ?hb ?c0).mono ?_); (case hb => exact HB0.out.trans ((HB7.out.alloc HB7.out.size _).mono HB0.out.size)); (case c0 => go_simp); rintro e w3 ⟨rfl, hb3⟩; have HB8 := Lib.hid (step_below HB7.out hb3); clear HB7 hb3; have HB7 := HB8; clear HB8) | (go_at_call 16; (with_reducible refine (CK.out _ ?hb).mono ?_); (case hb => exact HB0.out.trans (HB7.out.mono HB0.out.size)); rintro e w4 ⟨rfl, hb4⟩; have HB8 := Lib.hid (HB7.out.trans (hb4.mono HB7.out.size)); clear HB7 hb4; have HB7 := HB8; clear HB8) | (go_at_call 45; (with_reducible refine (OR.out _ _ ?c0 ?c1).mono ?_); (case c0 => go_simp); (case c1 => go_simp); rintro e w5 ⟨rfl, rfl⟩))
      have HB9 := Lib.hid (HB7.out.alloc HB7.out.size (.cells #[.int .i64 (validF l).2, .int .i64 (checkN p)] 27))
      clear HB7
      have HB7 := HB9
      clear HB9
      obtain ⟨c0, c1⟩ := SB.out _ HB7.out
      go_wp2_with (first | (go_at_call 38; (with_reducible refine (M1.out _ ?hb).mono ?_); (case hb => exact HB0.out.trans (HB7.out.mono HB0.out.size)); rintro e w6 ⟨vv, rfl, ho, hb6⟩; obtain ⟨qa6, qc6, rfl⟩ := ho.view.form; have HO6 := Lib.hid ho; have HB8 := Lib.hid (HB7.out.trans (hb6.mono HB7.out.size)); have HX6 := Lib.hid hb6; clear HB7 ho hb6; have HB7 := HB8; clear HB8; obtain ⟨c0, c1⟩ := SB.out _ HB7.out) | (go_at_call 44; (with_reducible refine (ME.out _ ?hb).mono ?_); (case hb => exact HB0.out.trans (HB7.out.mono HB0.out.size)); rintro e w7 ⟨rfl, hb7⟩; have HB8 := Lib.hid (HB7.out.trans (hb7.mono HB7.out.size)); clear HB7 hb7; have HB7 := HB8; clear HB8; obtain ⟨c0, c1⟩ := SB.out _ HB7.out))
      clear c0 c1
      have HB9 := Lib.hid (below_drewN _ 1 |> fun h => HB7.out.trans (h.mono HB7.out.size))
      clear HB7
      have HB7 := HB9
      clear HB9
      go_region_held3 (fun w' => w'.cell? ⟨w.heap.size, 0, none⟩ = some (.slice pm p.minus.length cm) ∧ w'.cell? ⟨w.heap.size, 1, none⟩ = some (.slice pp p.plus.length cp)) (first | exact SB.out _ HB7.out | exact SB.out _ (HB7.out.alloc HB7.out.size _)) (first | (go_at_call 38; (with_reducible refine (M2.out _ ?hb).mono ?_); (case hb => exact HB0.out.trans (HB7.out.mono HB0.out.size)); rintro e w9 ⟨vv, rfl, ho, hb9⟩; obtain ⟨qa9, qc9, rfl⟩ := ho.view.form; have HO9 := Lib.hid ho; have HB8 := Lib.hid (HB7.out.trans (hb9.mono HB7.out.size)); have HX9 := Lib.hid hb9; clear HB7 ho hb9; have HB7 := HB8; clear HB8) | (go_at_call 46; (with_reducible refine (UN.out _ ?hb _ _ HO9.out.view lenM).mono ?_); (case hb => exact HB0.out.trans (HB7.out.mono HB0.out.size)); rintro e w10 ⟨vv, rfl, ho, hb10⟩; obtain ⟨qa10, qc10, rfl⟩ := ho.view.form; have HO10 := Lib.hid ho; have HB8 := Lib.hid (HB7.out.trans (hb10.mono HB7.out.size)); have HX10 := Lib.hid (HB0.out.trans (HB7.out.mono HB0.out.size)); clear HB7 ho hb10; have HB7 := HB8; clear HB8))
      go_wp2_with fail
      go_ret2
      exact ⟨_, by rw [HE.out]; rfl, by rw [HE.out]; exact HO10.out.less HX10.out.size, HB0.out.trans (HB7.out.mono HB0.out.size)⟩
  · as_aux_lemma =>
    have q9 : (n != 0) = true := by rw [bne, kne n0]; rfl
    have HE : Hid (behindN must l p = ([], n)) := Lib.hid (by rw [HD.out, if_pos n0])
    clear HD n0
    go_enter Tryz.func41, Tryz.ntmps41
    go_wp2_with fail
    go_region_held3 (fun w' => w'.cell? ⟨w.heap.size, 0, none⟩ = some (.slice pm p.minus.length cm) ∧ w'.cell? ⟨w.heap.size, 1, none⟩ = some (.slice pp p.plus.length cp)) (first | exact SB.out _ HB7.out | exact SB.out _ (HB7.out.alloc HB7.out.size _)) (first | (go_at_call 37; (with_reducible refine (V1.out _ _ ?hb ?c0).mono ?_); (case hb => exact HB0.out.trans ((HB7.out.alloc HB7.out.size _).mono HB0.out.size)); (case c0 => go_simp); rintro e w3 ⟨rfl, hb3⟩; have HB8 := Lib.hid (step_below HB7.out hb3); clear HB7 hb3; have HB7 := HB8; clear HB8) | (go_at_call 16; (with_reducible refine (CK.out _ ?hb).mono ?_); (case hb => exact HB0.out.trans (HB7.out.mono HB0.out.size)); rintro e w4 ⟨rfl, hb4⟩; have HB8 := Lib.hid (HB7.out.trans (hb4.mono HB7.out.size)); clear HB7 hb4; have HB7 := HB8; clear HB8) | (go_at_call 45; (with_reducible refine (OR.out _ _ ?c0 ?c1).mono ?_); (case c0 => go_simp); (case c1 => go_simp); rintro e w5 ⟨rfl, rfl⟩))
    have HB9 := Lib.hid (HB7.out.alloc HB7.out.size (.cells #[.int .i64 (validF l).2, .int .i64 (checkN p)] 27))
    clear HB7
    have HB7 := HB9
    clear HB9
    go_wp2_with fail
    go_ret2
    exact ⟨.slice none 0 0, by rw [HE.out]; rfl, by rw [HE.out]; exact QOwn.nil _ _, HB0.out.trans (HB7.out.mono HB0.out.size)⟩

theorem apply_l (O : SetOK) (l : List QuadL) (v0 : Value) (p : PatchL) (mv pv : Value) (w : World) (hT : TabAt w) (hM : MaxAt w) (h0 : QView w v0 l) (h : PView w mv pv p) (n0 : Neat l) (hN : NeatP p) :
    Calls Tryz.prog 11 #[v0, .agg #[mv, pv]] w fun e w' => ∃ v, e = .returned (.tuple #[v, .int .i64 (behindN true l p).2]) ∧ QOwn w.heap.size v (behindN true l p).1 w' ∧ Below w.heap.size w w' := by
  have R := Lib.hid (fun (u : World) (hb : Below w.heap.size w u) => behind_l O true l v0 p mv pv u (hT.below hb) (hM.below hb) (h0.below hb) (h.below hb) n0 hN)
  have HB0 : Hid (∀ o1, Below w.heap.size w (w.alloc o1)) := Lib.hid (fun o1 => (Below.refl _ _).alloc (Nat.le_refl _) _)
  clear hT hM h0 h n0 hN O
  go_enter Tryz.func11, Tryz.ntmps11
  go_wp2_with (go_at_call 41; (with_reducible refine (R.out _ (HB0.out _)).mono ?_); rintro e w3 ⟨v, rfl, ho, hb⟩; have HX := Lib.hid (And.intro ho hb); clear ho hb)
  go_ret2
  exact ⟨v, rfl, HX.out.1.less (by simp), (HB0.out _).trans (HX.out.2.mono (by simp))⟩
theorem force_l (O : SetOK) (l : List QuadL) (v0 : Value) (p : PatchL) (mv pv : Value) (w : World) (hT : TabAt w) (hM : MaxAt w) (h0 : QView w v0 l) (h : PView w mv pv p) (n0 : Neat l) (hN : NeatP p) :
    Calls Tryz.prog 13 #[v0, .agg #[mv, pv]] w fun e w' => ∃ v, e = .returned (.tuple #[v, .int .i64 (behindN false l p).2]) ∧ QOwn w.heap.size v (behindN false l p).1 w' ∧ Below w.heap.size w w' := by
  have R := Lib.hid (fun (u : World) (hb : Below w.heap.size w u) => behind_l O false l v0 p mv pv u (hT.below hb) (hM.below hb) (h0.below hb) (h.below hb) n0 hN)
  have HB0 : Hid (∀ o1, Below w.heap.size w (w.alloc o1)) := Lib.hid (fun o1 => (Below.refl _ _).alloc (Nat.le_refl _) _)
  clear hT hM h0 h n0 hN O
  go_enter Tryz.func13, Tryz.ntmps13
  go_wp2_with (go_at_call 41; (with_reducible refine (R.out _ (HB0.out _)).mono ?_); rintro e w3 ⟨v, rfl, ho, hb⟩; have HX := Lib.hid (And.intro ho hb); clear ho hb)
  go_ret2
  exact ⟨v, rfl, HX.out.1.less (by simp), (HB0.out _).trans (HX.out.2.mono (by simp))⟩
end Go.Proofs.YthipcepgbegaiaaGreatDoor

/-
  patch.Invert, Compose, Over: contracts. By an AI agent.
-/
namespace Go.Proofs.YthipcepgbegaiaaGreatDoor
open Go.RowKit
set_option maxRecDepth 100000

theorem Neat.minusS {a b : List QuadL} (h : Neat a) : (minusS a b).length ≤ 524288 := Nat.le_trans (minusS_len a b) h.1
theorem block_after {w w3 : World} {cs : Array Value} {T : TypeId} (hb : Below (w.alloc (.cells cs T)).heap.size (w.alloc (.cells cs T)) w3) : w3.heap[w.heap.size]? = some (.cells cs T (0, 0)) := by
  rw [hb.block w.heap.size (by simp)]
  exact heap_alloc_new w _
theorem block_later {w w3 : World} {g : Nat} {o : Obj} (h : w.heap[g]? = some o) (hb : Below w.heap.size w w3) : w3.heap[g]? = some o := by
  rw [hb.block g (Array.getElem?_eq_some_iff.1 h).1]
  exact h
theorem step_below_d {W u w3 : World} {o : Obj} (h : Below W.heap.size W u) (hb : Below (u.alloc o).drew.heap.size (u.alloc o).drew w3) : Below W.heap.size W w3 :=
  step_below h (show Below (u.alloc o).heap.size (u.alloc o) w3 from (below_drewN (u.alloc o) 1).trans hb)
theorem block_after_d {w w3 : World} {cs : Array Value} {T : TypeId} (hb : Below (w.alloc (.cells cs T)).drew.heap.size (w.alloc (.cells cs T)).drew w3) : w3.heap[w.heap.size]? = some (.cells cs T (0, 0)) := by
  rw [hb.block w.heap.size (by simp)]
  exact heap_alloc_new w _
theorem alloc_trans {w w3 : World} {o : Obj} (hb : Below (w.alloc o).heap.size (w.alloc o) w3) : Below w.heap.size w w3 := ((Below.refl _ w).alloc (Nat.le_refl _) o).trans (hb.mono (by simp))
theorem row2 {w : World} {g : Nat} {x y : Value} {T : TypeId} (h : w.heap[g]? = some (.cells #[x, y] T (0, 0))) : w.cell? ⟨g, 0, none⟩ = some x ∧ w.cell? ⟨g, 1, none⟩ = some y ∧ w.frozen? ⟨g, 0, none⟩ = false ∧ w.frozen? ⟨g, 1, none⟩ = false :=
  ⟨cell_of_row w g 0 _ T _ h, cell_of_row w g 1 _ T _ h, frozen_of_row w g 0 _ T h, frozen_of_row w g 1 _ T h⟩
theorem set_below {W u : World} {g : Nat} {o : Obj} (h : Below W.heap.size W u) (_ : u.heap[g]? = some o) (hs : W.heap.size ≤ g) (a b : Value) : Below W.heap.size W ((u.setCell ⟨g, 0, none⟩ a).setCell ⟨g, 1, none⟩ b) :=
  (h.setCell (p := ⟨g, 0, none⟩) hs a).setCell (p := ⟨g, 1, none⟩) hs b
theorem row2_set {w : World} {g : Nat} {x y u v : Value} {T : TypeId} (h : w.heap[g]? = some (.cells #[x, y] T (0, 0))) : ((w.setCell ⟨g, 0, none⟩ u).setCell ⟨g, 1, none⟩ v).cell? ⟨g, 0, none⟩ = some u ∧ ((w.setCell ⟨g, 0, none⟩ u).setCell ⟨g, 1, none⟩ v).cell? ⟨g, 1, none⟩ = some v := by
  obtain ⟨a, b, c, d⟩ := row2 h
  have B : Box2 w g x y w := ⟨a, b, c, d, (Array.getElem?_eq_some_iff.1 h).1⟩
  exact ⟨B.stored.c0, B.stored.c1⟩
end Go.Proofs.YthipcepgbegaiaaGreatDoor
