/-
  tesseraref23.Check, Diff, Apply, Invert, two: contracts. By an AI agent.
-/
import Derived.Test.YthipcepgbegaiaaGreatDoorZPatchW2
import Derived.Test.YthipcepgbegaiaaGreatDoorZRefQuadW
import Derived.Test.YthipcepgbegaiaaGreatDoorZRefUnion
namespace Go.Proofs.YthipcepgbegaiaaGreatDoor
open Go.RowKit
set_option maxRecDepth 100000

theorem held_2 {w w' : World} {x y r0 r1 : Value} {T : TypeId} (h : Below ((w.alloc (.cells #[x, y] T)).alloc (.cells #[r0, r1] T)).heap.size ((w.alloc (.cells #[x, y] T)).alloc (.cells #[r0, r1] T)) w') : Box2 w w.heap.size x y w' ∧ Box2 w (w.heap.size + 1) r0 r1 w' := by
  have e1 : (w.alloc (.cells #[x, y] T)).heap.size = w.heap.size + 1 := by simp
  have b2 : Box2 w (w.heap.size + 1) r0 r1 ((w.alloc (.cells #[x, y] T)).alloc (.cells #[r0, r1] T)) := by
    have := Box2.mk0 (w := w.alloc (.cells #[x, y] T)) (x := r0) (y := r1) (T := T)
    rw [e1] at this
    exact ⟨this.c0, this.c1, this.f0, this.f1, this.lt⟩
  have b1 : Box2 w w.heap.size x y (w.alloc (.cells #[x, y] T)) := Box2.mk0
  have s1 : Below (w.alloc (.cells #[x, y] T)).heap.size (w.alloc (.cells #[x, y] T)) ((w.alloc (.cells #[x, y] T)).alloc (.cells #[r0, r1] T)) := (Below.refl _ _).alloc (Nat.le_refl _) _
  exact ⟨(b1.later s1).later h, b2.later h⟩
theorem refValidN_l (l : List QuadL) (v : Value) (w : World) (hV : QView w v l) (hn : Neat l) :
    Calls Tryz.prog 39 #[v] w fun e w' => e = .returned (.tuple #[.int .i64 (validF l).1, .int .i64 (validF l).2]) ∧ Below w.heap.size w w' := refValid_l l v w hV (fun q hq => hn.2 q hq) (by have := hn.1; omega)
set_option maxHeartbeats 2000000 in
theorem ref23Check_l (p : PatchL) (mv pv : Value) (w : World) (h : PView w mv pv p) (hN : NeatP p) :
    Calls Tryz.prog 17 #[.agg #[mv, pv]] w fun e w' => e = .returned (.int .i64 (checkN p)) ∧ Below w.heap.size w w' := by
  have V1 := Lib.hid (fun (u : World) (hb : Below w.heap.size w u) => refValidN_l p.minus mv u (h.1.below hb) hN.1)
  have V2 := Lib.hid (fun (u : World) (hb : Below w.heap.size w u) => refValidN_l p.plus pv u (h.2.below hb) hN.2)
  have ME := Lib.hid (fun (u : World) (hb : Below w.heap.size w u) => ref23Meet_l p.minus p.plus mv pv u (h.1.below hb) (h.2.below hb) (by have := hN.1.1; omega) (by have := hN.2.1; omega))
  have HD : Hid (checkN p = firstN (firstN (validF p.minus).2 (validF p.plus).2) (if meetS p.minus p.plus = [] then 0 else 230)) := Lib.hid rfl
  obtain ⟨pm, cm, rfl⟩ := h.1.form
  obtain ⟨pp, cp, rfl⟩ := h.2.form
  obtain ⟨W, hW⟩ : ∃ W, w.alloc (.cells #[.slice pm p.minus.length cm, .slice pp p.plus.length cp] 24) = W := ⟨_, rfl⟩
  have HB0 : Hid (Below w.heap.size w W) := Lib.hid (by rw [← hW]; exact (Below.refl _ _).alloc (Nat.le_refl _) _)
  have HB7 : Hid (Below W.heap.size W W) := Lib.hid (Below.refl _ _)
  have SB : Hid (∀ w', Below W.heap.size W w' → w'.cell? ⟨w.heap.size, 0, none⟩ = some (.slice pm p.minus.length cm) ∧ w'.cell? ⟨w.heap.size, 1, none⟩ = some (.slice pp p.plus.length cp)) := Lib.hid (fun w' hb => by rw [← hW] at hb; exact held_box hb)
  obtain ⟨c0, c1⟩ := SB.out _ HB7.out
  clear h hN
  obtain ⟨y, hy⟩ : ∃ y, validF p.minus = y := ⟨_, rfl⟩
  obtain ⟨y1, n1⟩ := y
  rw [hy] at V1 HD
  obtain ⟨z, hz⟩ : ∃ z, validF p.plus = z := ⟨_, rfl⟩
  obtain ⟨z1, n2⟩ := z
  rw [hz] at V2 HD
  obtain ⟨m, hm⟩ : ∃ m, meetS p.minus p.plus = m := ⟨_, rfl⟩
  rw [hm] at ME HD
  clear hy hz hm
  by_cases e1 : n1 = 0
  case neg =>
    as_aux_lemma =>
    have q1 := (kneR e1).2
    have HE : Hid (checkN p = n1) := Lib.hid (by rw [HD.out]; unfold firstN; simp only [if_pos (c := n1 ≠ 0) e1])
    clear HD e1
    go_enter Tryz.func17, Tryz.ntmps17
    go_wp2_with (go_at_call 39; (with_reducible refine (V1.out _ ?hb).mono ?_); (case hb => exact HB0.out.trans (HB7.out.mono HB0.out.size)); rintro e w3 ⟨rfl, hb3⟩; have HB8 := Lib.hid (HB7.out.trans (hb3.mono HB7.out.size)); clear HB7 hb3; have HB7 := HB8; clear HB8)
    go_ret
    exact ⟨ret_i64 HE.out.symm, HB0.out.trans (HB7.out.mono HB0.out.size)⟩
  subst e1
  by_cases e2 : n2 = 0
  case neg =>
    as_aux_lemma =>
    have q1 := (kneR e2).2
    have HE : Hid (checkN p = n2) := Lib.hid (by rw [HD.out]; unfold firstN; simp only [if_neg (c := (0 : Int) ≠ 0) (fun h => h rfl), if_pos (c := n2 ≠ 0) e2])
    clear HD e2
    go_enter Tryz.func17, Tryz.ntmps17
    go_wp2_with (first | (go_at_call 39; (with_reducible refine (V1.out _ ?hb).mono ?_); (case hb => exact HB0.out.trans (HB7.out.mono HB0.out.size)); rintro e w3 ⟨rfl, hb3⟩; have HB8 := Lib.hid (HB7.out.trans (hb3.mono HB7.out.size)); clear HB7 hb3; have HB7 := HB8; clear HB8; obtain ⟨c0, c1⟩ := SB.out _ HB7.out; clear V1) | (go_at_call 39; (with_reducible refine (V2.out _ ?hb).mono ?_); (case hb => exact HB0.out.trans (HB7.out.mono HB0.out.size)); rintro e w4 ⟨rfl, hb4⟩; have HB8 := Lib.hid (HB7.out.trans (hb4.mono HB7.out.size)); clear HB7 hb4; have HB7 := HB8; clear HB8))
    go_ret
    exact ⟨ret_i64 HE.out.symm, HB0.out.trans (HB7.out.mono HB0.out.size)⟩
  subst e2
  by_cases e3 : m = []
  case pos =>
    as_aux_lemma =>
    subst e3
    have HE : Hid (checkN p = 0) := Lib.hid (by rw [HD.out]; rfl)
    clear HD
    go_enter Tryz.func17, Tryz.ntmps17
    go_wp2_with (first | (go_at_call 39; (with_reducible refine (V1.out _ ?hb).mono ?_); (case hb => exact HB0.out.trans (HB7.out.mono HB0.out.size)); rintro e w3 ⟨rfl, hb3⟩; have HB8 := Lib.hid (HB7.out.trans (hb3.mono HB7.out.size)); clear HB7 hb3; have HB7 := HB8; clear HB8; obtain ⟨c0, c1⟩ := SB.out _ HB7.out; clear V1) | (go_at_call 39; (with_reducible refine (V2.out _ ?hb).mono ?_); (case hb => exact HB0.out.trans (HB7.out.mono HB0.out.size)); rintro e w4 ⟨rfl, hb4⟩; have HB8 := Lib.hid (HB7.out.trans (hb4.mono HB7.out.size)); clear HB7 hb4; have HB7 := HB8; clear HB8; obtain ⟨c0, c1⟩ := SB.out _ HB7.out) | (go_at_call 42; (with_reducible refine (ME.out _ ?hb).mono ?_); (case hb => exact HB0.out.trans (HB7.out.mono HB0.out.size)); rintro e w5 ⟨vv, rfl, ho, hb5⟩; obtain ⟨qa5, qc5, rfl⟩ := ho.view.form; clear ho; have HB8 := Lib.hid (HB7.out.trans (hb5.mono HB7.out.size)); clear HB7 hb5; have HB7 := HB8; clear HB8))
    go_ret
    exact ⟨ret_i64 HE.out.symm, HB0.out.trans (HB7.out.mono HB0.out.size)⟩
  case neg =>
    have q3 : decide ((0 : Int) < (m.length : Int)) = true := decide_eq_true (by have := List.length_pos_iff.2 e3; omega)
    have q3n : decide (0 < m.length) = true := decide_eq_true (by have := List.length_pos_iff.2 e3; omega)
    have HE : Hid (checkN p = 230) := Lib.hid (by rw [HD.out, if_neg e3]; rfl)
    clear HD e3
    go_enter Tryz.func17, Tryz.ntmps17
    go_wp2_with (first | (go_at_call 39; (with_reducible refine (V1.out _ ?hb).mono ?_); (case hb => exact HB0.out.trans (HB7.out.mono HB0.out.size)); rintro e w3 ⟨rfl, hb3⟩; have HB8 := Lib.hid (HB7.out.trans (hb3.mono HB7.out.size)); clear HB7 hb3; have HB7 := HB8; clear HB8; obtain ⟨c0, c1⟩ := SB.out _ HB7.out; clear V1) | (go_at_call 39; (with_reducible refine (V2.out _ ?hb).mono ?_); (case hb => exact HB0.out.trans (HB7.out.mono HB0.out.size)); rintro e w4 ⟨rfl, hb4⟩; have HB8 := Lib.hid (HB7.out.trans (hb4.mono HB7.out.size)); clear HB7 hb4; have HB7 := HB8; clear HB8; obtain ⟨c0, c1⟩ := SB.out _ HB7.out) | (go_at_call 42; (with_reducible refine (ME.out _ ?hb).mono ?_); (case hb => exact HB0.out.trans (HB7.out.mono HB0.out.size)); rintro e w5 ⟨vv, rfl, ho, hb5⟩; obtain ⟨qa5, qc5, rfl⟩ := ho.view.form; clear ho; have HB8 := Lib.hid (HB7.out.trans (hb5.mono HB7.out.size)); clear HB7 hb5; have HB7 := HB8; clear HB8))
    go_ret
    exact ⟨ret_i64 HE.out.symm, HB0.out.trans (HB7.out.mono HB0.out.size)⟩
set_option maxHeartbeats 2000000 in
theorem ref23Diff_l (a b : List QuadL) (v0 v1 : Value) (w : World) (h0 : QView w v0 a) (h1 : QView w v1 b) (n0 : Neat a) (n1 : Neat b) :
    Calls Tryz.prog 10 #[v0, v1] w fun e w' => ∃ mv pv, e = .returned (.tuple #[.agg #[mv, pv], .int .i64 (diffN a b).2]) ∧ PFresh w.heap.size mv pv (diffN a b).1 w' ∧ Below w.heap.size w w' := by
  have V1 := Lib.hid (fun (u : World) (hb : Below w.heap.size w u) => refValidN_l a v0 u (h0.below hb) n0)
  have V2 := Lib.hid (fun (u : World) (hb : Below w.heap.size w u) => refValidN_l b v1 u (h1.below hb) n1)
  have M1 := Lib.hid (fun (u : World) (hb : Below w.heap.size w u) => ref23Minus_l a b v0 v1 u (h0.below hb) (h1.below hb) (by have := n0.1; omega) (by have := n1.1; omega))
  have M2 := Lib.hid (fun (u : World) (hb : Below w.heap.size w u) => ref23Minus_l b a v1 v0 u (h1.below hb) (h0.below hb) (by have := n1.1; omega) (by have := n0.1; omega))
  have HD : Hid (diffN a b = if firstN (validF a).2 (validF b).2 ≠ 0 then (noPatch, firstN (validF a).2 (validF b).2) else (⟨minusS a b, minusS b a⟩, 0)) := Lib.hid rfl
  obtain ⟨pa, ca, rfl⟩ := h0.form
  obtain ⟨pb, cb, rfl⟩ := h1.form
  obtain ⟨W, hW⟩ : ∃ W, w.alloc (.cells #[.slice none 0 0, .slice none 0 0] 24) = W := ⟨_, rfl⟩
  have HB0 : Hid (Below w.heap.size w W) := Lib.hid (by rw [← hW]; exact (Below.refl _ _).alloc (Nat.le_refl _) _)
  have HB7 : Hid (Below W.heap.size W W) := Lib.hid (Below.refl _ _)
  have SB : Hid (∀ w', Below W.heap.size W w' → Box2 w w.heap.size (.slice none 0 0) (.slice none 0 0) w') := Lib.hid (fun w' hb => by rw [← hW] at hb; exact Box2.mk0.later hb)
  have HSZ : Hid (w.heap.size < W.heap.size) := Lib.hid (by rw [← hW]; simp)
  clear h0 h1 n0 n1
  obtain ⟨y, hy⟩ : ∃ y, validF a = y := ⟨_, rfl⟩
  obtain ⟨y1, n1⟩ := y
  rw [hy] at V1 HD
  obtain ⟨z, hz⟩ : ∃ z, validF b = z := ⟨_, rfl⟩
  obtain ⟨z1, n2⟩ := z
  rw [hz] at V2 HD
  clear hy hz
  by_cases e1 : n1 = 0
  case neg =>
    as_aux_lemma =>
    have q1 := (kneR e1).2
    have q1b := (kneR e1).1
    have HE : Hid (diffN a b = (noPatch, n1)) := Lib.hid (by rw [HD.out]; unfold firstN; simp only [if_pos (c := n1 ≠ 0) e1])
    clear HD e1
    go_enter Tryz.func10, Tryz.ntmps10
    go_wp2_with (go_at_call 39; (with_reducible refine (V1.out _ ?hb).mono ?_); (case hb => exact HB0.out.trans (HB7.out.mono HB0.out.size)); rintro e w3 ⟨rfl, hb3⟩; have HB8 := Lib.hid (HB7.out.trans (hb3.mono HB7.out.size)); clear HB7 hb3; have HB7 := HB8; clear HB8; have BX := SB.out _ HB7.out; have c0 := BX.c0; have c1 := BX.c1; have f0 := BX.f0; have f1 := BX.f1; clear BX)
    refine bodyPost_ret (v := .tuple #[.agg #[.slice none 0 0, .slice none 0 0], .int .i64 n1]) (by simp [results, Tryz.results10, go_sem, c0, c1]) rfl ?_
    exact ⟨_, _, by rw [HE.out], by rw [HE.out]; exact PFresh.nil _ _, ((HB0.out.trans (HB7.out.mono HB0.out.size)).setCell (p := ⟨w.heap.size, 0, none⟩) (Nat.le_refl _) _).setCell (p := ⟨w.heap.size, 1, none⟩) (Nat.le_refl _) _⟩
  subst e1
  by_cases e2 : n2 = 0
  case neg =>
    as_aux_lemma =>
    have q1 := (kneR e2).2
    have HE : Hid (diffN a b = (noPatch, n2)) := Lib.hid (by rw [HD.out]; unfold firstN; simp only [if_neg (c := (0 : Int) ≠ 0) (fun h => h rfl), if_pos (c := n2 ≠ 0) e2])
    clear HD e2
    go_enter Tryz.func10, Tryz.ntmps10
    go_wp2_with (first | (go_at_call 39; (with_reducible refine (V1.out _ ?hb).mono ?_); (case hb => exact HB0.out.trans (HB7.out.mono HB0.out.size)); rintro e w3 ⟨rfl, hb3⟩; have HB8 := Lib.hid (HB7.out.trans (hb3.mono HB7.out.size)); clear HB7 hb3; have HB7 := HB8; clear HB8; clear V1) | (go_at_call 39; (with_reducible refine (V2.out _ ?hb).mono ?_); (case hb => exact HB0.out.trans (HB7.out.mono HB0.out.size)); rintro e w4 ⟨rfl, hb4⟩; have HB8 := Lib.hid (HB7.out.trans (hb4.mono HB7.out.size)); clear HB7 hb4; have HB7 := HB8; clear HB8; have BX := SB.out _ HB7.out; have c0 := BX.c0; have c1 := BX.c1; have f0 := BX.f0; have f1 := BX.f1; clear BX))
    refine bodyPost_ret (v := .tuple #[.agg #[.slice none 0 0, .slice none 0 0], .int .i64 n2]) (by simp [results, Tryz.results10, go_sem, c0, c1]) rfl ?_
    exact ⟨_, _, by rw [HE.out], by rw [HE.out]; exact PFresh.nil _ _, ((HB0.out.trans (HB7.out.mono HB0.out.size)).setCell (p := ⟨w.heap.size, 0, none⟩) (Nat.le_refl _) _).setCell (p := ⟨w.heap.size, 1, none⟩) (Nat.le_refl _) _⟩
  subst e2
  as_aux_lemma =>
    have HE : Hid (diffN a b = (⟨minusS a b, minusS b a⟩, 0)) := Lib.hid (by rw [HD.out]; rfl)
    clear HD
    go_enter Tryz.func10, Tryz.ntmps10
    go_wp2_with (first | (go_at_call 39; (with_reducible refine (V1.out _ ?hb).mono ?_); (case hb => exact HB0.out.trans (HB7.out.mono HB0.out.size)); rintro e w3 ⟨rfl, hb3⟩; have HB8 := Lib.hid (HB7.out.trans (hb3.mono HB7.out.size)); clear HB7 hb3; have HB7 := HB8; clear HB8; clear V1) | (go_at_call 39; (with_reducible refine (V2.out _ ?hb).mono ?_); (case hb => exact HB0.out.trans (HB7.out.mono HB0.out.size)); rintro e w4 ⟨rfl, hb4⟩; have HB8 := Lib.hid (HB7.out.trans (hb4.mono HB7.out.size)); clear HB7 hb4; have HB7 := HB8; clear HB8) | (go_at_call 40; (with_reducible refine (M1.out _ ?hb).mono ?_); (case hb => exact HB0.out.trans (HB7.out.mono HB0.out.size)); rintro e w5 ⟨vv, rfl, ho, hb5⟩; obtain ⟨qa5, qc5, rfl⟩ := ho.view.form; have HO5 := Lib.hid ho; have HX5 := Lib.hid hb5; have HP5 := HB7; clear ho; have HB8 := Lib.hid (HB7.out.trans (hb5.mono HB7.out.size)); clear HB7 hb5; have HB7 := HB8; clear HB8; clear M1) | (go_at_call 40; (with_reducible refine (M2.out _ ?hb).mono ?_); (case hb => exact HB0.out.trans (HB7.out.mono HB0.out.size)); rintro e w6 ⟨vv, rfl, ho, hb6⟩; obtain ⟨qa6, qc6, rfl⟩ := ho.view.form; have HO6 := Lib.hid ho; have HX6 := Lib.hid hb6; have HP6 := HB7; clear ho; have HB8 := Lib.hid (HB7.out.trans (hb6.mono HB7.out.size)); clear HB7 hb6; have HB7 := HB8; clear HB8; have BX := SB.out _ HB7.out; have c0 := BX.c0; have c1 := BX.c1; have f0 := BX.f0; have f1 := BX.f1; clear BX))
    refine bodyPost_ret (v := .tuple #[.agg #[.slice qa5 (minusS a b).length qc5, .slice qa6 (minusS b a).length qc6], .int .i64 0]) (by simp [results, Tryz.results10, go_sem, c0, c1]) rfl ?_
    obtain ⟨x1, x2⟩ := patch_fin (w := w) (Nat.lt_of_lt_of_le HSZ.out HP5.out.size) (HB0.out.trans (HP5.out.mono HB0.out.size)) HO5.out HX5.out HO6.out HX6.out
    exact ⟨_, _, by rw [HE.out], by rw [HE.out]; exact x1, x2⟩
end Go.Proofs.YthipcepgbegaiaaGreatDoor
