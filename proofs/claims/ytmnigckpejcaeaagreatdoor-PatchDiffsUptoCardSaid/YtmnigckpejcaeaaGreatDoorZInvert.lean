/-
  patch.Invert: contracts. By an AI agent.
-/
import Derived.Test.YtmnigckpejcaeaaGreatDoorZSets
import Derived.Test.YtmnigckpejcaeaaGreatDoorZRefQuadW
namespace Go.Proofs.YtmnigckpejcaeaaGreatDoor
open Go.RowKit
set_option maxRecDepth 100000
theorem two_keep {w u : World} {x y v : Value} {k : Nat} (h : u.cell? ⟨w.heap.size, 0, none⟩ = some x /\ u.cell? ⟨w.heap.size, 1, none⟩ = some y) :
   (u.setCell ⟨w.heap.size + 1, k, none⟩ v).cell? ⟨w.heap.size, 0, none⟩ = some x /\ (u.setCell ⟨w.heap.size + 1, k, none⟩ v).cell? ⟨w.heap.size, 1, none⟩ = some y := by
 refine ⟨?_, ?_⟩
 · rw [World.cell?_setCell_other _ _ _ _ (by simp)]; exact h.1
 · rw [World.cell?_setCell_other _ _ _ _ (by simp)]; exact h.2
set_option maxHeartbeats 4000000 in
theorem patchInvert_l (O : SetOK) (p : PatchL) (mv pv : Value) (w : World) (hT : TabAt w) (hM : MaxAt w) (h : PView w mv pv p) (hN : NeatP p) :
   Calls Tryz.prog 18 #[.agg #[mv, pv]] w fun e w' => ∃ rm rp, e = .returned (.tuple #[.agg #[rm, rp], .int .i64 (invertN p).2]) /\ PFresh w.heap.size rm rp (invertN p).1 w' /\ Below w.heap.size w w' := by
 have CK := Lib.hid (fun (u : World) (hb : Below w.heap.size w u) => patchCheck_l O p mv pv u (hT.below hb) (hM.below hb) (h.below hb) hN)
 have M1 := fun (u : World) (hb : Below w.heap.size w u) => O.minus p.plus [] pv (.slice none 0 0) u (h.2.below hb) (QOwn.nil 0 u).view (by have := hN.2.1; omega) (by simp)
 have M2 := fun (u : World) (hb : Below w.heap.size w u) => O.minus p.minus [] mv (.slice none 0 0) u (h.1.below hb) (QOwn.nil 0 u).view (by have := hN.1.1; omega) (by simp)
 have HD : Hid (invertN p = if checkN p ≠ 0 then (noPatch, checkN p) else (⟨p.plus, p.minus⟩, 0)) := Lib.hid rfl
 have HF : Hid (checkN p = 0 -> Rise p.minus /\ Rise p.plus) := Lib.hid (fun h => ⟨((checkN_ok p).1 h).1.rise, ((checkN_ok p).1 h).2.1.rise⟩)
 obtain ⟨pm, cm, rfl⟩ := h.1.form
 obtain ⟨pp, cp, rfl⟩ := h.2.form
 have HB0 : Hid (Below w.heap.size w ((w.alloc (.cells #[.slice pm p.minus.length cm, .slice pp p.plus.length cp] 24)).alloc (.cells #[.slice none 0 0, .slice none 0 0] 24))) := Lib.hid (((Below.refl _ _).alloc (Nat.le_refl _) _).alloc (by simp) _)
 have SB : Hid (∀ w', Below ((w.alloc (.cells #[.slice pm p.minus.length cm, .slice pp p.plus.length cp] 24)).alloc (.cells #[.slice none 0 0, .slice none 0 0] 24)).heap.size ((w.alloc (.cells #[.slice pm p.minus.length cm, .slice pp p.plus.length cp] 24)).alloc (.cells #[.slice none 0 0, .slice none 0 0] 24)) w' -> w'.cell? ⟨w.heap.size, 0, none⟩ = some (.slice pm p.minus.length cm) /\ w'.cell? ⟨w.heap.size, 1, none⟩ = some (.slice pp p.plus.length cp) /\ w'.cell? ⟨w.heap.size + 1, 0, none⟩ = some (.slice none 0 0) /\ w'.cell? ⟨w.heap.size + 1, 1, none⟩ = some (.slice none 0 0) /\ w'.frozen? ⟨w.heap.size + 1, 0, none⟩ = false /\ w'.frozen? ⟨w.heap.size + 1, 1, none⟩ = false) := Lib.hid (fun w' h => by
   obtain ⟨h1, h2⟩ := held_2 h
   exact ⟨h1.c0, h1.c1, h2.c0, h2.c1, h2.f0, h2.f1⟩)
 have HSZ : Hid (w.heap.size + 1 < ((w.alloc (.cells #[.slice pm p.minus.length cm, .slice pp p.plus.length cp] 24)).alloc (.cells #[.slice none 0 0, .slice none 0 0] 24)).heap.size) := Lib.hid (by simp)
 clear hT hM h hN O
 obtain ⟨n, hn⟩ : ∃ n, checkN p = n := ⟨_, rfl⟩
 rw [hn] at CK HD HF
 clear hn
 obtain ⟨W, hW⟩ : ∃ W, (w.alloc (.cells #[.slice pm p.minus.length cm, .slice pp p.plus.length cp] 24)).alloc (.cells #[.slice none 0 0, .slice none 0 0] 24) = W := ⟨_, rfl⟩
 rw [hW] at HB0 SB HSZ
 have HB7 : Hid (Below W.heap.size W W) := Lib.hid (Below.refl _ _)
 obtain ⟨c0, c1, c2, c3, f2, f3⟩ := SB.out _ HB7.out
 by_cases e1 : n = 0
 case neg =>
   as_aux_lemma =>
   have q1 := (kneR e1).2
   have HE : Hid (invertN p = (noPatch, n)) := Lib.hid (by rw [HD.out, if_pos (c := n ≠ 0) e1])
   clear HD HF e1 M1 M2
   go_enter Tryz.func18, Tryz.ntmps18
   go_wp2_with (go_at_call 22; (with_reducible refine (CK.out _ ?hb).mono ?_); (case hb => exact HB0.out.trans (HB7.out.mono HB0.out.size)); rintro e w3 ⟨rfl, hb3⟩; have HB8 := Lib.hid (HB7.out.trans (hb3.mono HB7.out.size)); clear HB7 hb3; have HB7 := HB8; clear HB8; clear c0 c1 c2 c3 f2 f3; obtain ⟨c0, c1, c2, c3, f2, f3⟩ := SB.out _ HB7.out)
   refine bodyPost_ret (v := .tuple #[.agg #[.slice none 0 0, .slice none 0 0], .int .i64 n]) (by simp [results, Tryz.results18, go_sem, c2, c3]) rfl ?_
   exact ⟨_, _, by rw [HE.out], by rw [HE.out]; exact PFresh.nil _ _, ((HB0.out.trans (HB7.out.mono HB0.out.size)).setCell (p := ⟨w.heap.size + 1, 0, none⟩) (by simp only; omega) _).setCell (p := ⟨w.heap.size + 1, 1, none⟩) (by simp only; omega) _⟩
 subst e1
 obtain ⟨r1, r2⟩ := HF.out rfl
 rw [minus_nil r2] at M1
 rw [minus_nil r1] at M2
 have M1 := Lib.hid M1
 have M2 := Lib.hid M2
 clear r1 r2 HF
 as_aux_lemma =>
   have HE : Hid (invertN p = (⟨p.plus, p.minus⟩, 0)) := Lib.hid (by rw [HD.out]; rfl)
   clear HD
   go_enter Tryz.func18, Tryz.ntmps18
   go_upto_region 4 with (go_at_call 22; (with_reducible refine (CK.out _ ?hb).mono ?_); (case hb => exact HB0.out.trans (HB7.out.mono HB0.out.size)); rintro e w3 ⟨rfl, hb3⟩; have HB8 := Lib.hid (HB7.out.trans (hb3.mono HB7.out.size)); clear HB7 hb3; have HB7 := HB8; clear HB8; clear c0 c1 c2 c3 f2 f3; obtain ⟨c0, c1, c2, c3, f2, f3⟩ := SB.out _ HB7.out)
   clear c0 c1 c2 c3 f2 f3
   have SB2 : Hid (∀ w', Below W.heap.size W w' -> w'.cell? ⟨w.heap.size, 0, none⟩ = some (.slice pm p.minus.length cm) /\ w'.cell? ⟨w.heap.size, 1, none⟩ = some (.slice pp p.plus.length cp)) := Lib.hid (fun w' h => by
     obtain ⟨z0, z1, _⟩ := SB.out w' h
     exact ⟨z0, z1⟩)
   have HB9 := Lib.hid (HB7.out.trans ((below_drewN _ 1).mono HB7.out.size))
   clear HB7
   have HB7 := HB9
   clear HB9
   go_region_held3 (fun w' => w'.cell? ⟨w.heap.size, 0, none⟩ = some (.slice pm p.minus.length cm) /\ w'.cell? ⟨w.heap.size, 1, none⟩ = some (.slice pp p.plus.length cp)) (first | exact SB2.out _ HB7.out | exact two_keep (SB2.out _ HB7.out) | exact two_keep (two_keep (SB2.out _ HB7.out))) (first | (go_at_call 38; (with_reducible refine (M1.out _ ?hb).mono ?_); (case hb => exact HB0.out.trans (HB7.out.mono HB0.out.size)); rintro e w8 ⟨vv, rfl, ho, hb8⟩; obtain ⟨qa8, qc8, rfl⟩ := ho.view.form; have HO8 := Lib.hid ho; have HX8 := Lib.hid hb8; have HP8 := HB7; clear ho; have HB8 := Lib.hid (HB7.out.trans (hb8.mono HB7.out.size)); clear HB7 hb8; have HB7 := HB8; clear HB8) | (go_at_call 38; (with_reducible refine (M2.out _ ?hb).mono ?_); (case hb => exact HB0.out.trans (HB7.out.mono HB0.out.size)); rintro e w9 ⟨vv, rfl, ho, hb9⟩; obtain ⟨qa9, qc9, rfl⟩ := ho.view.form; have HO9 := Lib.hid ho; have HX9 := Lib.hid hb9; have HP9 := HB7; clear ho; have HB8 := Lib.hid (HB7.out.trans (hb9.mono HB7.out.size)); clear HB7 hb9; have HB7 := HB8; clear HB8; obtain ⟨_, _, c2, c3, f2, f3⟩ := SB.out _ HB7.out))
   go_wp2_with fail
   refine bodyPost_ret (v := .tuple #[.agg #[.slice qa8 p.plus.length qc8, .slice qa9 p.minus.length qc9], .int .i64 0]) (by simp [results, Tryz.results18, go_sem, c2, c3]) rfl ?_
   have sz := Nat.lt_of_lt_of_le HSZ.out HP8.out.size
   obtain ⟨x1, x2⟩ := patch_fin3 (w := w) (g := w.heap.size + 1) (by omega) HO8.out sz (Below.refl _ _) HO9.out HX9.out (Below.refl _ _) (HB0.out.trans (HB7.out.mono HB0.out.size)) (Nat.le_trans (by omega) (Nat.le_of_lt sz)) HX8.out.size
   exact ⟨_, _, by rw [HE.out], by rw [HE.out]; exact x1, x2⟩
end Go.Proofs.YtmnigckpejcaeaaGreatDoor
namespace Go.Proofs.YtmnigckpejcaeaaGreatDoor
open Go.RowKit
set_option maxRecDepth 100000
set_option maxHeartbeats 4000000 in
theorem patchCompose_l (O : SetOK) (p q : PatchL) (mv pv mv2 pv2 : Value) (w : World) (hT : TabAt w) (hM : MaxAt w) (h : PView w mv pv p) (h2 : PView w mv2 pv2 q) (hN : NeatP p) (hN2 : NeatP q) :
   Calls Tryz.prog 36 #[.agg #[mv, pv], .agg #[mv2, pv2]] w fun e w' => ∃ rm rp, e = .returned (.tuple #[.agg #[rm, rp], .int .i64 (composeN p q).2]) /\ PFresh w.heap.size rm rp (composeN p q).1 w' /\ Below w.heap.size w w' := by
 have CP := Lib.hid (fun (u : World) (hb : Below w.heap.size w u) => patchCheck_l O p mv pv u (hT.below hb) (hM.below hb) (h.below hb) hN)
 have CQ := Lib.hid (fun (u : World) (hb : Below w.heap.size w u) => patchCheck_l O q mv2 pv2 u (hT.below hb) (hM.below hb) (h2.below hb) hN2)
 have ME1 := Lib.hid (fun (u : World) (hb : Below w.heap.size w u) => O.meet p.minus q.minus mv mv2 u (h.1.below hb) (h2.1.below hb) (by have := hN.1.1; omega) (by have := hN2.1.1; omega))
 have ME2 := Lib.hid (fun (u : World) (hb : Below w.heap.size w u) => O.meet p.plus q.plus pv pv2 u (h.2.below hb) (h2.2.below hb) (by have := hN.2.1; omega) (by have := hN2.2.1; omega))
 have M1 := Lib.hid (fun (u : World) (hb : Below w.heap.size w u) => O.minus p.minus q.plus mv pv2 u (h.1.below hb) (h2.2.below hb) (by have := hN.1.1; omega) (by have := hN2.2.1; omega))
 have M2 := Lib.hid (fun (u : World) (hb : Below w.heap.size w u) => O.minus q.minus p.plus mv2 pv u (h2.1.below hb) (h.2.below hb) (by have := hN2.1.1; omega) (by have := hN.2.1; omega))
 have M3 := Lib.hid (fun (u : World) (hb : Below w.heap.size w u) => O.minus p.plus q.minus pv mv2 u (h.2.below hb) (h2.1.below hb) (by have := hN.2.1; omega) (by have := hN2.1.1; omega))
 have M4 := Lib.hid (fun (u : World) (hb : Below w.heap.size w u) => O.minus q.plus p.minus pv2 mv u (h2.2.below hb) (h.1.below hb) (by have := hN2.2.1; omega) (by have := hN.1.1; omega))
 have L1 : Hid ((minusS p.minus q.plus).length <= 524288) := Lib.hid hN.1.minusS
 have L2 : Hid ((minusS q.minus p.plus).length <= 524288) := Lib.hid hN2.1.minusS
 have L3 : Hid ((minusS p.plus q.minus).length <= 524288) := Lib.hid hN.2.minusS
 have L4 : Hid ((minusS q.plus p.minus).length <= 524288) := Lib.hid hN2.2.minusS
 have U1 : (unionS (minusS p.minus q.plus) (minusS q.minus p.plus)).length <= 1048576 := by
   have := unionS_len (minusS p.minus q.plus) (minusS q.minus p.plus)
   have := L1.out
   have := L2.out
   omega
 have U2 : (unionS (minusS p.plus q.minus) (minusS q.plus p.minus)).length <= 1048576 := by
   have := unionS_len (minusS p.plus q.minus) (minusS q.plus p.minus)
   have := L3.out
   have := L4.out
   omega
 have t1 : decide ((1048576 : Int) < ((unionS (minusS p.minus q.plus) (minusS q.minus p.plus)).length : Int)) = false := decide_eq_false (by omega)
 have t2 : decide ((1048576 : Int) < ((unionS (minusS p.plus q.minus) (minusS q.plus p.minus)).length : Int)) = false := decide_eq_false (by omega)
 have UN1 := Lib.hid (fun (u : World) (hb : Below w.heap.size w u) (v v' : Value) (hv : QView u v (minusS p.minus q.plus)) (hv' : QView u v' (minusS q.minus p.plus)) => O.union (minusS p.minus q.plus) (minusS q.minus p.plus) v v' u hv hv' (by have := L1.out; omega) (by have := L2.out; omega))
 have UN2 := Lib.hid (fun (u : World) (hb : Below w.heap.size w u) (v v' : Value) (hv : QView u v (minusS p.plus q.minus)) (hv' : QView u v' (minusS q.plus p.minus)) => O.union (minusS p.plus q.minus) (minusS q.plus p.minus) v v' u hv hv' (by have := L3.out; omega) (by have := L4.out; omega))
 have OR := Lib.hid (fun (g : Nat) (u : World) => orErr_l (checkN p) (checkN q) g u)
 have HD : Hid (composeN p q = if firstN (checkN p) (checkN q) ≠ 0 then (noPatch, firstN (checkN p) (checkN q)) else if ¬ (meetS p.minus q.minus = [] /\ meetS p.plus q.plus = []) then (noPatch, 230) else if 1048576 < (unionS (minusS p.minus q.plus) (minusS q.minus p.plus)).length \/ 1048576 < (unionS (minusS p.plus q.minus) (minusS q.plus p.minus)).length then (noPatch, 2) else (⟨unionS (minusS p.minus q.plus) (minusS q.minus p.plus), unionS (minusS p.plus q.minus) (minusS q.plus p.minus)⟩, 0)) := Lib.hid rfl
 obtain ⟨pm, cm, rfl⟩ := h.1.form
 obtain ⟨pp, cp, rfl⟩ := h.2.form
 obtain ⟨qm, dm, rfl⟩ := h2.1.form
 obtain ⟨qp, dp, rfl⟩ := h2.2.form
 have HB0 : Hid (Below w.heap.size w (((w.alloc (.cells #[.slice pm p.minus.length cm, .slice pp p.plus.length cp] 24)).alloc (.cells #[.slice qm q.minus.length dm, .slice qp q.plus.length dp] 24)).alloc (.cells #[.slice none 0 0, .slice none 0 0] 24))) := Lib.hid ((((Below.refl _ _).alloc (Nat.le_refl _) _).alloc (by simp) _).alloc (by simp; omega) _)
 have SB : Hid (∀ w', Below (((w.alloc (.cells #[.slice pm p.minus.length cm, .slice pp p.plus.length cp] 24)).alloc (.cells #[.slice qm q.minus.length dm, .slice qp q.plus.length dp] 24)).alloc (.cells #[.slice none 0 0, .slice none 0 0] 24)).heap.size (((w.alloc (.cells #[.slice pm p.minus.length cm, .slice pp p.plus.length cp] 24)).alloc (.cells #[.slice qm q.minus.length dm, .slice qp q.plus.length dp] 24)).alloc (.cells #[.slice none 0 0, .slice none 0 0] 24)) w' -> w'.cell? ⟨w.heap.size, 0, none⟩ = some (.slice pm p.minus.length cm) /\ w'.cell? ⟨w.heap.size, 1, none⟩ = some (.slice pp p.plus.length cp) /\ w'.cell? ⟨w.heap.size + 1, 0, none⟩ = some (.slice qm q.minus.length dm) /\ w'.cell? ⟨w.heap.size + 1, 1, none⟩ = some (.slice qp q.plus.length dp) /\ w'.cell? ⟨w.heap.size + 1 + 1, 0, none⟩ = some (.slice none 0 0) /\ w'.cell? ⟨w.heap.size + 1 + 1, 1, none⟩ = some (.slice none 0 0) /\ w'.frozen? ⟨w.heap.size + 1 + 1, 0, none⟩ = false /\ w'.frozen? ⟨w.heap.size + 1 + 1, 1, none⟩ = false) := Lib.hid (fun w' h => by
   obtain ⟨h1, h2, h3⟩ := held_3 h
   exact ⟨h1.c0, h1.c1, h2.c0, h2.c1, h3.c0, h3.c1, h3.f0, h3.f1⟩)
 have HSZ : Hid (w.heap.size + 1 + 1 < (((w.alloc (.cells #[.slice pm p.minus.length cm, .slice pp p.plus.length cp] 24)).alloc (.cells #[.slice qm q.minus.length dm, .slice qp q.plus.length dp] 24)).alloc (.cells #[.slice none 0 0, .slice none 0 0] 24)).heap.size) := Lib.hid (by simp)
 clear hT hM h h2 hN hN2 O
 obtain ⟨n, hn⟩ : ∃ n, firstN (checkN p) (checkN q) = n := ⟨_, rfl⟩
 rw [hn] at HD
 rw [orI_firstN, hn] at OR
 clear hn
 obtain ⟨W, hW⟩ : ∃ W, ((w.alloc (.cells #[.slice pm p.minus.length cm, .slice pp p.plus.length cp] 24)).alloc (.cells #[.slice qm q.minus.length dm, .slice qp q.plus.length dp] 24)).alloc (.cells #[.slice none 0 0, .slice none 0 0] 24) = W := ⟨_, rfl⟩
 rw [hW] at HB0 SB HSZ
 have HB7 : Hid (Below W.heap.size W W.drew) := Lib.hid (below_drewN W 1)
 by_cases n0 : n = 0
 · have q9 : (n != 0) = false := by rw [n0]; rfl
   have HD2 : Hid (composeN p q = if ¬ (meetS p.minus q.minus = [] /\ meetS p.plus q.plus = []) then (noPatch, 230) else (⟨unionS (minusS p.minus q.plus) (minusS q.minus p.plus), unionS (minusS p.plus q.minus) (minusS q.plus p.minus)⟩, 0)) := Lib.hid (by
     rw [HD.out, if_neg (fun h => h n0)]
     rw [if_neg (c := 1048576 < (unionS (minusS p.minus q.plus) (minusS q.minus p.plus)).length \/ 1048576 < (unionS (minusS p.plus q.minus) (minusS q.plus p.minus)).length) (by omega)])
   clear HD n0
   by_cases h1 : 0 < (meetS p.minus q.minus).length
   · as_aux_lemma =>
     have HE : Hid (composeN p q = (noPatch, 230)) := Lib.hid (by rw [HD2.out, if_pos (fun h => by rw [h.1] at h1; simp at h1)])
     rw [decide_eq_true h1] at ME1
     clear HD2
     go_enter Tryz.func36, Tryz.ntmps36
     go_wp2_with fail
     go_region_held3 (fun w' => w'.cell? ⟨w.heap.size, 0, none⟩ = some (.slice pm p.minus.length cm) /\ w'.cell? ⟨w.heap.size, 1, none⟩ = some (.slice pp p.plus.length cp) /\ w'.cell? ⟨w.heap.size + 1, 0, none⟩ = some (.slice qm q.minus.length dm) /\ w'.cell? ⟨w.heap.size + 1, 1, none⟩ = some (.slice qp q.plus.length dp) /\ w'.cell? ⟨w.heap.size + 1 + 1, 0, none⟩ = some (.slice none 0 0) /\ w'.cell? ⟨w.heap.size + 1 + 1, 1, none⟩ = some (.slice none 0 0) /\ w'.frozen? ⟨w.heap.size + 1 + 1, 0, none⟩ = false /\ w'.frozen? ⟨w.heap.size + 1 + 1, 1, none⟩ = false) (first | exact SB.out _ HB7.out | exact SB.out _ (HB7.out.alloc HB7.out.size _)) (first | (go_at_call 22; (with_reducible refine (CP.out _ ?hb).mono ?_); (case hb => exact HB0.out.trans (HB7.out.mono HB0.out.size)); rintro e w3 ⟨rfl, hb3⟩; have HB8 := Lib.hid (HB7.out.trans (hb3.mono HB7.out.size)); clear HB7 hb3; have HB7 := HB8; clear HB8) | (go_at_call 22; (with_reducible refine (CQ.out _ ?hb).mono ?_); (case hb => exact HB0.out.trans (HB7.out.mono HB0.out.size)); rintro e w4 ⟨rfl, hb4⟩; have HB8 := Lib.hid (HB7.out.trans (hb4.mono HB7.out.size)); clear HB7 hb4; have HB7 := HB8; clear HB8) | (go_at_call 65; (with_reducible refine (OR.out _ _ ?c0 ?c1).mono ?_); (case c0 => go_simp); (case c1 => go_simp); rintro e w5 ⟨rfl, rfl⟩))
     have HB9 := Lib.hid (HB7.out.alloc HB7.out.size (.cells #[.int .i64 (checkN p), .int .i64 (checkN q)] 28))
     clear HB7
     have HB7 := HB9
     clear HB9
     obtain ⟨c0, c1, c2, c3, c4, c5, f4, f5⟩ := SB.out _ HB7.out
     go_wp2_with (go_at_call 42; (with_reducible refine (ME1.out _ ?hb).mono ?_); (case hb => exact HB0.out.trans (HB7.out.mono HB0.out.size)); rintro e w6 ⟨rfl, hb6⟩; have HB8 := Lib.hid (HB7.out.trans (hb6.mono HB7.out.size)); clear HB7 hb6; have HB7 := HB8; clear HB8; obtain ⟨c0, c1, c2, c3, c4, c5, f4, f5⟩ := SB.out _ HB7.out)
     refine bodyPost_ret (v := .tuple #[.agg #[.slice none 0 0, .slice none 0 0], .int .i64 230]) (by simp [results, Tryz.results36, go_sem, c4, c5]) rfl ?_
     exact ⟨_, _, by rw [HE.out], by rw [HE.out]; exact PFresh.nil _ _, ((HB0.out.trans (HB7.out.mono HB0.out.size)).setCell (p := ⟨w.heap.size + 1 + 1, 0, none⟩) (by simp only; omega) _).setCell (p := ⟨w.heap.size + 1 + 1, 1, none⟩) (by simp only; omega) _⟩
   rw [decide_eq_false h1] at ME1
   by_cases h2 : 0 < (meetS p.plus q.plus).length
   · as_aux_lemma =>
     have HE : Hid (composeN p q = (noPatch, 230)) := Lib.hid (by rw [HD2.out, if_pos (fun h => by rw [h.2] at h2; simp at h2)])
     rw [decide_eq_true h2] at ME2
     clear HD2 h1
     go_enter Tryz.func36, Tryz.ntmps36
     go_wp2_with fail
     go_region_held3 (fun w' => w'.cell? ⟨w.heap.size, 0, none⟩ = some (.slice pm p.minus.length cm) /\ w'.cell? ⟨w.heap.size, 1, none⟩ = some (.slice pp p.plus.length cp) /\ w'.cell? ⟨w.heap.size + 1, 0, none⟩ = some (.slice qm q.minus.length dm) /\ w'.cell? ⟨w.heap.size + 1, 1, none⟩ = some (.slice qp q.plus.length dp) /\ w'.cell? ⟨w.heap.size + 1 + 1, 0, none⟩ = some (.slice none 0 0) /\ w'.cell? ⟨w.heap.size + 1 + 1, 1, none⟩ = some (.slice none 0 0) /\ w'.frozen? ⟨w.heap.size + 1 + 1, 0, none⟩ = false /\ w'.frozen? ⟨w.heap.size + 1 + 1, 1, none⟩ = false) (first | exact SB.out _ HB7.out | exact SB.out _ (HB7.out.alloc HB7.out.size _)) (first | (go_at_call 22; (with_reducible refine (CP.out _ ?hb).mono ?_); (case hb => exact HB0.out.trans (HB7.out.mono HB0.out.size)); rintro e w3 ⟨rfl, hb3⟩; have HB8 := Lib.hid (HB7.out.trans (hb3.mono HB7.out.size)); clear HB7 hb3; have HB7 := HB8; clear HB8) | (go_at_call 22; (with_reducible refine (CQ.out _ ?hb).mono ?_); (case hb => exact HB0.out.trans (HB7.out.mono HB0.out.size)); rintro e w4 ⟨rfl, hb4⟩; have HB8 := Lib.hid (HB7.out.trans (hb4.mono HB7.out.size)); clear HB7 hb4; have HB7 := HB8; clear HB8) | (go_at_call 65; (with_reducible refine (OR.out _ _ ?c0 ?c1).mono ?_); (case c0 => go_simp); (case c1 => go_simp); rintro e w5 ⟨rfl, rfl⟩))
     have HB9 := Lib.hid (HB7.out.alloc HB7.out.size (.cells #[.int .i64 (checkN p), .int .i64 (checkN q)] 28))
     clear HB7
     have HB7 := HB9
     clear HB9
     obtain ⟨c0, c1, c2, c3, c4, c5, f4, f5⟩ := SB.out _ HB7.out
     go_wp2_with (first | (go_at_call 42; (with_reducible refine (ME1.out _ ?hb).mono ?_); (case hb => exact HB0.out.trans (HB7.out.mono HB0.out.size)); rintro e w6 ⟨rfl, hb6⟩; have HB8 := Lib.hid (HB7.out.trans (hb6.mono HB7.out.size)); clear HB7 hb6; have HB7 := HB8; clear HB8; obtain ⟨c0, c1, c2, c3, c4, c5, f4, f5⟩ := SB.out _ HB7.out) | (go_at_call 42; (with_reducible refine (ME2.out _ ?hb).mono ?_); (case hb => exact HB0.out.trans (HB7.out.mono HB0.out.size)); rintro e w7 ⟨rfl, hb7⟩; have HB8 := Lib.hid (HB7.out.trans (hb7.mono HB7.out.size)); clear HB7 hb7; have HB7 := HB8; clear HB8; obtain ⟨c0, c1, c2, c3, c4, c5, f4, f5⟩ := SB.out _ HB7.out))
     refine bodyPost_ret (v := .tuple #[.agg #[.slice none 0 0, .slice none 0 0], .int .i64 230]) (by simp [results, Tryz.results36, go_sem, c4, c5]) rfl ?_
     exact ⟨_, _, by rw [HE.out], by rw [HE.out]; exact PFresh.nil _ _, ((HB0.out.trans (HB7.out.mono HB0.out.size)).setCell (p := ⟨w.heap.size + 1 + 1, 0, none⟩) (by simp only; omega) _).setCell (p := ⟨w.heap.size + 1 + 1, 1, none⟩) (by simp only; omega) _⟩
   rw [decide_eq_false h2] at ME2
   have HE : Hid (composeN p q = (⟨unionS (minusS p.minus q.plus) (minusS q.minus p.plus), unionS (minusS p.plus q.minus) (minusS q.plus p.minus)⟩, 0)) := Lib.hid (by rw [HD2.out, if_neg (fun h => h ⟨List.eq_nil_of_length_eq_zero (by omega), List.eq_nil_of_length_eq_zero (by omega)⟩)])
   clear HD2 h1 h2
   as_aux_lemma =>
     go_enter Tryz.func36, Tryz.ntmps36
     go_wp2_with fail
     go_region_held3 (fun w' => w'.cell? ⟨w.heap.size, 0, none⟩ = some (.slice pm p.minus.length cm) /\ w'.cell? ⟨w.heap.size, 1, none⟩ = some (.slice pp p.plus.length cp) /\ w'.cell? ⟨w.heap.size + 1, 0, none⟩ = some (.slice qm q.minus.length dm) /\ w'.cell? ⟨w.heap.size + 1, 1, none⟩ = some (.slice qp q.plus.length dp) /\ w'.cell? ⟨w.heap.size + 1 + 1, 0, none⟩ = some (.slice none 0 0) /\ w'.cell? ⟨w.heap.size + 1 + 1, 1, none⟩ = some (.slice none 0 0) /\ w'.frozen? ⟨w.heap.size + 1 + 1, 0, none⟩ = false /\ w'.frozen? ⟨w.heap.size + 1 + 1, 1, none⟩ = false) (first | exact SB.out _ HB7.out | exact SB.out _ (HB7.out.alloc HB7.out.size _)) (first | (go_at_call 22; (with_reducible refine (CP.out _ ?hb).mono ?_); (case hb => exact HB0.out.trans (HB7.out.mono HB0.out.size)); rintro e w3 ⟨rfl, hb3⟩; have HB8 := Lib.hid (HB7.out.trans (hb3.mono HB7.out.size)); clear HB7 hb3; have HB7 := HB8; clear HB8) | (go_at_call 22; (with_reducible refine (CQ.out _ ?hb).mono ?_); (case hb => exact HB0.out.trans (HB7.out.mono HB0.out.size)); rintro e w4 ⟨rfl, hb4⟩; have HB8 := Lib.hid (HB7.out.trans (hb4.mono HB7.out.size)); clear HB7 hb4; have HB7 := HB8; clear HB8) | (go_at_call 65; (with_reducible refine (OR.out _ _ ?c0 ?c1).mono ?_); (case c0 => go_simp); (case c1 => go_simp); rintro e w5 ⟨rfl, rfl⟩))
     have HB9 := Lib.hid (HB7.out.alloc HB7.out.size (.cells #[.int .i64 (checkN p), .int .i64 (checkN q)] 28))
     clear HB7
     have HB7 := HB9
     clear HB9
     obtain ⟨c0, c1, c2, c3, c4, c5, f4, f5⟩ := SB.out _ HB7.out
     go_upto_region 6 with (first | (go_at_call 42; (with_reducible refine (ME1.out _ ?hb).mono ?_); (case hb => exact HB0.out.trans (HB7.out.mono HB0.out.size)); rintro e w6 ⟨rfl, hb6⟩; have HB8 := Lib.hid (HB7.out.trans (hb6.mono HB7.out.size)); clear HB7 hb6; have HB7 := HB8; clear HB8; obtain ⟨c0, c1, c2, c3, c4, c5, f4, f5⟩ := SB.out _ HB7.out) | (go_at_call 42; (with_reducible refine (ME2.out _ ?hb).mono ?_); (case hb => exact HB0.out.trans (HB7.out.mono HB0.out.size)); rintro e w7 ⟨rfl, hb7⟩; have HB8 := Lib.hid (HB7.out.trans (hb7.mono HB7.out.size)); clear HB7 hb7; have HB7 := HB8; clear HB8; obtain ⟨c0, c1, c2, c3, c4, c5, f4, f5⟩ := SB.out _ HB7.out))
     clear c0 c1 c2 c3 c4 c5 f4 f5
     have HB9 := Lib.hid (HB7.out.trans ((below_drewN _ 1).mono HB7.out.size))
     have HBQ := HB7
     clear HB7
     have HB7 := HB9
     clear HB9
     have BH : Hid True := Lib.hid trivial
     have HS : Hid True := Lib.hid trivial
     go_region_held3 (fun w' => w'.cell? ⟨w.heap.size, 0, none⟩ = some (.slice pm p.minus.length cm) /\ w'.cell? ⟨w.heap.size, 1, none⟩ = some (.slice pp p.plus.length cp) /\ w'.cell? ⟨w.heap.size + 1, 0, none⟩ = some (.slice qm q.minus.length dm) /\ w'.cell? ⟨w.heap.size + 1, 1, none⟩ = some (.slice qp q.plus.length dp) /\ w'.cell? ⟨w.heap.size + 1 + 1, 0, none⟩ = some (.slice none 0 0) /\ w'.cell? ⟨w.heap.size + 1 + 1, 1, none⟩ = some (.slice none 0 0) /\ w'.frozen? ⟨w.heap.size + 1 + 1, 0, none⟩ = false /\ w'.frozen? ⟨w.heap.size + 1 + 1, 1, none⟩ = false) (first | exact SB.out _ HB7.out | exact SB.out _ (HB7.out.alloc HB7.out.size _) | exact SB.out _ (HB7.out.setCell (p := ⟨_, 0, none⟩) HS.out _) | exact SB.out _ ((HB7.out.setCell (p := ⟨_, 0, none⟩) HS.out _).setCell (p := ⟨_, 1, none⟩) HS.out _)) (first | (go_at_call 38; (with_reducible refine (M1.out _ ?hb8 ).mono ?_); (case hb8 => first | exact HB0.out.trans (HB7.out.mono HB0.out.size) | exact HB0.out.trans ((HB7.out.alloc HB7.out.size _).mono HB0.out.size) | exact HB0.out.trans (((HBQ.out.alloc HBQ.out.size _).trans ((below_drewN _ 1).mono (HBQ.out.alloc HBQ.out.size _).size)).mono HB0.out.size)); rintro e w8 ⟨vv, rfl, ho, hb⟩; obtain ⟨qa8, qc8, rfl⟩ := ho.view.form; (first | (have zb := Lib.hid (HB7.out.trans (hb.mono HB7.out.size)); have zt := Lib.hid hb; have zl := Lib.hid HB7.out.size) | (have zb := Lib.hid (step_below HB7.out hb); have zt := Lib.hid (alloc_trans hb); clear BH HS; have BH := Lib.hid (block_after hb); have HS := Lib.hid HB7.out.size; have zl := Lib.hid (le_alloc HB7.out.size hb)) | (have zb := Lib.hid (step_below_d HBQ.out hb); have zt := zb; clear BH HS; have BH := Lib.hid (block_after_d hb); have HS := Lib.hid HBQ.out.size; have zl := Lib.hid (le_alloc_d HBQ.out.size hb))); have HO8 := Lib.hid (ho.less zl.out); clear HB7 ho hb zl; have HB7 := zb; clear zb zt) | (go_at_call 38; (with_reducible refine (M2.out _ ?hb9 ).mono ?_); (case hb9 => first | exact HB0.out.trans (HB7.out.mono HB0.out.size) | exact HB0.out.trans ((HB7.out.alloc HB7.out.size _).mono HB0.out.size)); rintro e w9 ⟨vv, rfl, ho, hb⟩; obtain ⟨qa9, qc9, rfl⟩ := ho.view.form; (first | (have zb := Lib.hid (HB7.out.trans (hb.mono HB7.out.size)); have zt := Lib.hid hb; have zl := Lib.hid HB7.out.size) | (have zb := Lib.hid (step_below HB7.out hb); have zt := Lib.hid (alloc_trans hb); clear BH HS; have BH := Lib.hid (block_after hb); have HS := Lib.hid HB7.out.size; have zl := Lib.hid (le_alloc HB7.out.size hb))); (try (have z := Lib.hid (block_later BH.out zt.out); clear BH; have BH := z; clear z)); (try (have z := Lib.hid (QOwn.below HO8.out zt.out); clear HO8; have HO8 := z; clear z)); have HO9 := Lib.hid (ho.less zl.out); clear HB7 ho hb zl; have HB7 := zb; clear zb zt) | (go_at_call 66; (with_reducible refine (UN1.out _ ?hb10 _ _ ?hv100 ?hv101).mono ?_); (case hb10 => first | exact HB0.out.trans (HB7.out.mono HB0.out.size) | exact HB0.out.trans ((HB7.out.alloc HB7.out.size _).mono HB0.out.size)); (case hv100 => first | exact HO8.out.view | exact HO8.out.view.below ((Below.refl _ _).alloc (Nat.le_refl _) _)); (case hv101 => first | exact HO9.out.view | exact HO9.out.view.below ((Below.refl _ _).alloc (Nat.le_refl _) _)); rintro e w10 ⟨vv, rfl, ho, hb⟩; obtain ⟨qa10, qc10, rfl⟩ := ho.view.form; (first | (have zb := Lib.hid (HB7.out.trans (hb.mono HB7.out.size)); have zt := Lib.hid hb; have zl := Lib.hid HB7.out.size) | (have zb := Lib.hid (step_below HB7.out hb); have zt := Lib.hid (alloc_trans hb); clear BH HS; have BH := Lib.hid (block_after hb); have HS := Lib.hid HB7.out.size; have zl := Lib.hid (le_alloc HB7.out.size hb))); (try (have z := Lib.hid (block_later BH.out zt.out); clear BH; have BH := z; clear z)); (try (have z := Lib.hid (QOwn.below HO8.out zt.out); clear HO8; have HO8 := z; clear z)); (try (have z := Lib.hid (QOwn.below HO9.out zt.out); clear HO9; have HO9 := z; clear z)); have HO10 := Lib.hid (ho.less zl.out); have HM := Lib.hid ho; have HC := Lib.hid (Below.refl w10.heap.size w10); clear HB7 ho hb zl; have HB7 := zb; clear zb zt) | (go_at_call 38; (with_reducible refine (M3.out _ ?hb11 ).mono ?_); (case hb11 => first | exact HB0.out.trans (HB7.out.mono HB0.out.size) | exact HB0.out.trans ((HB7.out.alloc HB7.out.size _).mono HB0.out.size)); rintro e w11 ⟨vv, rfl, ho, hb⟩; obtain ⟨qa11, qc11, rfl⟩ := ho.view.form; (first | (have zb := Lib.hid (HB7.out.trans (hb.mono HB7.out.size)); have zt := Lib.hid hb; have zl := Lib.hid HB7.out.size) | (have zb := Lib.hid (step_below HB7.out hb); have zt := Lib.hid (alloc_trans hb); clear BH HS; have BH := Lib.hid (block_after hb); have HS := Lib.hid HB7.out.size; have zl := Lib.hid (le_alloc HB7.out.size hb))); (try (have z := Lib.hid (block_later BH.out zt.out); clear BH; have BH := z; clear z)); (try (have z := Lib.hid (QOwn.below HO8.out zt.out); clear HO8; have HO8 := z; clear z)); (try (have z := Lib.hid (QOwn.below HO9.out zt.out); clear HO9; have HO9 := z; clear z)); (try (have z := Lib.hid (QOwn.below HO10.out zt.out); clear HO10; have HO10 := z; clear z)); (have z := Lib.hid (Below.trans HC.out (zt.out.mono HC.out.size))); have HO11 := Lib.hid (ho.less zl.out); clear HC; have HC := z; clear z; clear HB7 ho hb zl; have HB7 := zb; clear zb zt) | (go_at_call 38; (with_reducible refine (M4.out _ ?hb12 ).mono ?_); (case hb12 => first | exact HB0.out.trans (HB7.out.mono HB0.out.size) | exact HB0.out.trans ((HB7.out.alloc HB7.out.size _).mono HB0.out.size)); rintro e w12 ⟨vv, rfl, ho, hb⟩; obtain ⟨qa12, qc12, rfl⟩ := ho.view.form; (first | (have zb := Lib.hid (HB7.out.trans (hb.mono HB7.out.size)); have zt := Lib.hid hb; have zl := Lib.hid HB7.out.size) | (have zb := Lib.hid (step_below HB7.out hb); have zt := Lib.hid (alloc_trans hb); clear BH HS; have BH := Lib.hid (block_after hb); have HS := Lib.hid HB7.out.size; have zl := Lib.hid (le_alloc HB7.out.size hb))); (try (have z := Lib.hid (block_later BH.out zt.out); clear BH; have BH := z; clear z)); (try (have z := Lib.hid (QOwn.below HO8.out zt.out); clear HO8; have HO8 := z; clear z)); (try (have z := Lib.hid (QOwn.below HO9.out zt.out); clear HO9; have HO9 := z; clear z)); (try (have z := Lib.hid (QOwn.below HO10.out zt.out); clear HO10; have HO10 := z; clear z)); (try (have z := Lib.hid (QOwn.below HO11.out zt.out); clear HO11; have HO11 := z; clear z)); (have z := Lib.hid (Below.trans HC.out (zt.out.mono HC.out.size))); have HO12 := Lib.hid (ho.less zl.out); clear HC; have HC := z; clear z; clear HB7 ho hb zl; have HB7 := zb; clear zb zt) | (go_at_call 66; (with_reducible refine (UN2.out _ ?hb13 _ _ ?hv130 ?hv131).mono ?_); (case hb13 => first | exact HB0.out.trans (HB7.out.mono HB0.out.size) | exact HB0.out.trans ((HB7.out.alloc HB7.out.size _).mono HB0.out.size)); (case hv130 => first | exact HO11.out.view | exact HO11.out.view.below ((Below.refl _ _).alloc (Nat.le_refl _) _)); (case hv131 => first | exact HO12.out.view | exact HO12.out.view.below ((Below.refl _ _).alloc (Nat.le_refl _) _)); rintro e w13 ⟨vv, rfl, ho, hb⟩; obtain ⟨qa13, qc13, rfl⟩ := ho.view.form; (first | (have zb := Lib.hid (HB7.out.trans (hb.mono HB7.out.size)); have zt := Lib.hid hb; have zl := Lib.hid HB7.out.size) | (have zb := Lib.hid (step_below HB7.out hb); have zt := Lib.hid (alloc_trans hb); clear BH HS; have BH := Lib.hid (block_after hb); have HS := Lib.hid HB7.out.size; have zl := Lib.hid (le_alloc HB7.out.size hb))); (try (have z := Lib.hid (block_later BH.out zt.out); clear BH; have BH := z; clear z)); (try (have z := Lib.hid (QOwn.below HO8.out zt.out); clear HO8; have HO8 := z; clear z)); (try (have z := Lib.hid (QOwn.below HO9.out zt.out); clear HO9; have HO9 := z; clear z)); (try (have z := Lib.hid (QOwn.below HO10.out zt.out); clear HO10; have HO10 := z; clear z)); (try (have z := Lib.hid (QOwn.below HO11.out zt.out); clear HO11; have HO11 := z; clear z)); (try (have z := Lib.hid (QOwn.below HO12.out zt.out); clear HO12; have HO12 := z; clear z)); (have z := Lib.hid (Below.trans HC.out (zt.out.mono HC.out.size))); have HO13 := Lib.hid (ho.less zl.out); have AP := Lib.hid (QOwn.apart HM.out ho (by first | exact HC.out.size | exact Nat.le_trans HC.out.size (by simp))); clear HC; have HC := z; clear z; clear HB7 ho hb zl; have HB7 := zb; clear zb zt; (try (have kk := row2 BH.out; obtain ⟨k0, k1, g0, g1⟩ := kk))))
     all_goals first
       | (have zz := row2 BH.out; clear zz; obtain ⟨c0, c1, c2, c3, c4, c5, f4, f5⟩ := SB.out _ (set_below HB7.out BH.out HS.out (.slice qa10 (unionS (minusS p.minus q.plus) (minusS q.minus p.plus)).length qc10) (.slice qa13 (unionS (minusS p.plus q.minus) (minusS q.plus p.minus)).length qc13)); obtain ⟨m0, m1⟩ := row2_set (u := .slice qa10 (unionS (minusS p.minus q.plus) (minusS q.minus p.plus)).length qc10) (v := .slice qa13 (unionS (minusS p.plus q.minus) (minusS q.plus p.minus)).length qc13) BH.out; have RB := Lib.hid (Box2.stored (w := w) (u := .slice qa10 (unionS (minusS p.minus q.plus) (minusS q.minus p.plus)).length qc10) (v := .slice qa13 (unionS (minusS p.plus q.minus) (minusS q.plus p.minus)).length qc13) ⟨c4, c5, f4, f5, World.block_lt_of_cell? _ _ c4⟩); clear k0 k1 g0 g1; go_wp2_with fail; have r0 := RB.out.c0; have r1 := RB.out.c1; have r2 := World.cell?_setCell_same _ _ (.slice qa10 (unionS (minusS p.minus q.plus) (minusS q.minus p.plus)).length qc10) c4; refine bodyPost_ret (v := .tuple #[.agg #[.slice qa10 (unionS (minusS p.minus q.plus) (minusS q.minus p.plus)).length qc10, .slice qa13 (unionS (minusS p.plus q.minus) (minusS q.plus p.minus)).length qc13], .int .i64 0]) (by simp [results, Tryz.results36, go_sem, r0, r1]) rfl ?_; obtain ⟨x1, x2⟩ := compose_fin (w := w) (g := w.heap.size + 1 + 1) HB0.out (by omega) HSZ.out HO10.out HO13.out AP.out BH.out HS.out HB7.out; exact ⟨_, _, by rw [HE.out], by rw [HE.out]; exact x1, x2⟩)
       | (obtain ⟨c0, c1, c2, c3, c4, c5, f4, f5⟩ := SB.out _ (HB7.out.alloc HB7.out.size (.cells #[.slice qa10 (unionS (minusS p.minus q.plus) (minusS q.minus p.plus)).length qc10, .slice qa13 (unionS (minusS p.plus q.minus) (minusS q.plus p.minus)).length qc13] 24)); go_wp2_with fail; refine bodyPost_ret (v := .tuple #[.agg #[.slice qa10 (unionS (minusS p.minus q.plus) (minusS q.minus p.plus)).length qc10, .slice qa13 (unionS (minusS p.plus q.minus) (minusS q.plus p.minus)).length qc13], .int .i64 0]) (by simp [results, Tryz.results36, go_sem, c4, c5]) rfl ?_; obtain ⟨x1, x2⟩ := compose_fin2 (w := w) (g := w.heap.size + 1 + 1) HB0.out (by omega) HSZ.out HO10.out HO13.out AP.out HB7.out; exact ⟨_, _, by rw [HE.out], by rw [HE.out]; exact x1, x2⟩)
 · as_aux_lemma =>
   have q9 : (n != 0) = true := by rw [bne, kne n0]; rfl
   have HE : Hid (composeN p q = (noPatch, n)) := Lib.hid (by rw [HD.out, if_pos n0])
   clear HD n0
   go_enter Tryz.func36, Tryz.ntmps36
   go_wp2_with fail
   go_region_held3 (fun w' => w'.cell? ⟨w.heap.size, 0, none⟩ = some (.slice pm p.minus.length cm) /\ w'.cell? ⟨w.heap.size, 1, none⟩ = some (.slice pp p.plus.length cp) /\ w'.cell? ⟨w.heap.size + 1, 0, none⟩ = some (.slice qm q.minus.length dm) /\ w'.cell? ⟨w.heap.size + 1, 1, none⟩ = some (.slice qp q.plus.length dp) /\ w'.cell? ⟨w.heap.size + 1 + 1, 0, none⟩ = some (.slice none 0 0) /\ w'.cell? ⟨w.heap.size + 1 + 1, 1, none⟩ = some (.slice none 0 0) /\ w'.frozen? ⟨w.heap.size + 1 + 1, 0, none⟩ = false /\ w'.frozen? ⟨w.heap.size + 1 + 1, 1, none⟩ = false) (first | exact SB.out _ HB7.out | exact SB.out _ (HB7.out.alloc HB7.out.size _)) (first | (go_at_call 22; (with_reducible refine (CP.out _ ?hb).mono ?_); (case hb => exact HB0.out.trans (HB7.out.mono HB0.out.size)); rintro e w3 ⟨rfl, hb3⟩; have HB8 := Lib.hid (HB7.out.trans (hb3.mono HB7.out.size)); clear HB7 hb3; have HB7 := HB8; clear HB8) | (go_at_call 22; (with_reducible refine (CQ.out _ ?hb).mono ?_); (case hb => exact HB0.out.trans (HB7.out.mono HB0.out.size)); rintro e w4 ⟨rfl, hb4⟩; have HB8 := Lib.hid (HB7.out.trans (hb4.mono HB7.out.size)); clear HB7 hb4; have HB7 := HB8; clear HB8) | (go_at_call 65; (with_reducible refine (OR.out _ _ ?c0 ?c1).mono ?_); (case c0 => go_simp); (case c1 => go_simp); rintro e w5 ⟨rfl, rfl⟩))
   have HB9 := Lib.hid (HB7.out.alloc HB7.out.size (.cells #[.int .i64 (checkN p), .int .i64 (checkN q)] 28))
   clear HB7
   have HB7 := HB9
   clear HB9
   obtain ⟨c0, c1, c2, c3, c4, c5, f4, f5⟩ := SB.out _ HB7.out
   go_wp2_with fail
   refine bodyPost_ret (v := .tuple #[.agg #[.slice none 0 0, .slice none 0 0], .int .i64 n]) (by simp [results, Tryz.results36, go_sem, c4, c5]) rfl ?_
   exact ⟨_, _, by rw [HE.out], by rw [HE.out]; exact PFresh.nil _ _, ((HB0.out.trans (HB7.out.mono HB0.out.size)).setCell (p := ⟨w.heap.size + 1 + 1, 0, none⟩) (by simp only; omega) _).setCell (p := ⟨w.heap.size + 1 + 1, 1, none⟩) (by simp only; omega) _⟩
end Go.Proofs.YtmnigckpejcaeaaGreatDoor
