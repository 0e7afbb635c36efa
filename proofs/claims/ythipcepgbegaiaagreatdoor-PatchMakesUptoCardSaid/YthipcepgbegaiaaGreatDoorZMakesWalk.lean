/-
  tesseralaw23.PatchMakes: the walk: contracts. By an AI agent.
-/
import Derived.Test.YthipcepgbegaiaaGreatDoorZLaw23
import Derived.Test.YthipcepgbegaiaaGreatDoorZRef23A
import Derived.Test.YthipcepgbegaiaaGreatDoorZInvert
import Derived.Deep.Cut
namespace Go.Proofs.YthipcepgbegaiaaGreatDoor
open Go.RowKit
set_option maxRecDepth 100000

set_option maxHeartbeats 8000000 in
theorem makes_walk (a b : List QuadL) (p : PatchL) (v0 v1 mv pv : Value) (w : World) (hT : TabAt w) (hM : MaxAt w) (h0 : QView w v0 a) (h1 : QView w v1 b) (hp : PView w mv pv p) (n0 : Neat a) (n1 : Neat b) (n2 : NeatP p) :
    Calls Tryz.prog 3 #[v0, v1, .agg #[mv, pv]] w fun e w' => e = .returned (.bool true) ∧ Below w.heap.size w w' := by
  have RA := Lib.hid (fun (u : World) (hb : Below w.heap.size w u) => roomy_l a v0 u (h0.below hb) (by have := n0.1; omega))
  have RB := Lib.hid (fun (u : World) (hb : Below w.heap.size w u) => roomy_l b v1 u (h1.below hb) (by have := n1.1; omega))
  have RP := Lib.hid (fun (u : World) (hb : Below w.heap.size w u) => roomyP_l p mv pv u (hp.below hb) n2)
  have IN := Lib.hid (And.intro hT (And.intro hM (And.intro h0 (And.intro h1 hp))))
  have NN := Lib.hid (And.intro n0 (And.intro n1 n2))
  obtain ⟨pa, ca, rfl⟩ := h0.form
  obtain ⟨pb, cb, rfl⟩ := h1.form
  obtain ⟨pm, cm, rfl⟩ := hp.1.form
  obtain ⟨pp, cp, rfl⟩ := hp.2.form
  clear hT hM h0 h1 hp n0 n1 n2
  obtain ⟨W, hW⟩ : ∃ W, w.alloc (.cells #[.slice pm p.minus.length cm, .slice pp p.plus.length cp] 24) = W := ⟨_, rfl⟩
  have HB0 : Hid (Below w.heap.size w W) := Lib.hid (by rw [← hW]; exact (Below.refl _ _).alloc (Nat.le_refl _) _)
  have SB : Hid (∀ w', Below W.heap.size W w' → w'.cell? ⟨w.heap.size, 0, none⟩ = some (.slice pm p.minus.length cm) ∧ w'.cell? ⟨w.heap.size, 1, none⟩ = some (.slice pp p.plus.length cp)) := Lib.hid (fun w' hb => by rw [← hW] at hb; exact held_box hb)
  have KW := Lib.hid (SB.out W (Below.refl _ _))
  go_enter Tryz.func3, Tryz.ntmps3
  go_upto_region 1 with fail
  go_cut [7, 8, 9] from 22 (fun x7 x8 x9 wx => ∃ go rm rp, x9 = .pointer (some ⟨go, 0, none⟩) ∧ MakesC a b p (.slice pa a.length ca) (.slice pb b.length cb) (.slice pm p.minus.length cm) (.slice pp p.plus.length cp) x7 x8 rm rp w.heap.size go wx ∧ Below w.heap.size w wx)
  case first =>
    as_aux_lemma =>
      have HBQ : Hid (Below W.heap.size W W) := Lib.hid (Below.refl _ _)
      have HB7 : Hid (Below W.heap.size W W.drew) := Lib.hid (below_drewN W 1)
      have BH : Hid True := Lib.hid trivial
      have HS : Hid True := Lib.hid trivial
      go_region_held3 (fun w' => w'.cell? ⟨w.heap.size, 0, none⟩ = some (.slice pm p.minus.length cm) ∧ w'.cell? ⟨w.heap.size, 1, none⟩ = some (.slice pp p.plus.length cp)) (first | exact SB.out _ HB7.out | exact SB.out _ (HB7.out.alloc HB7.out.size _) | exact SB.out _ (HB7.out.setCell (p := ⟨_, 0, none⟩) HS.out _) | exact SB.out _ ((HB7.out.setCell (p := ⟨_, 0, none⟩) HS.out _).setCell (p := ⟨_, 1, none⟩) HS.out _)) (first | (go_at_call 7; (with_reducible refine (RA.out _ ?hb3).mono ?_); (case hb3 => first | exact HB0.out.trans (HB7.out.mono HB0.out.size) | exact HB0.out.trans ((HB7.out.alloc HB7.out.size _).mono HB0.out.size) | exact HB0.out.trans (((HBQ.out.alloc HBQ.out.size _).trans ((below_drewN _ 1).mono (HBQ.out.alloc HBQ.out.size _).size)).mono HB0.out.size)); rintro e w3 ⟨vv, rfl, ho, hb⟩; obtain ⟨gc, rfl⟩ := ho.form; have HO3 := Lib.hid ho; (first | (have zb := Lib.hid (HB7.out.trans (hb.mono HB7.out.size)); have zt := Lib.hid hb) | (have zb := Lib.hid (step_below HB7.out hb); have zt := Lib.hid (alloc_trans hb); clear BH HS; have BH := Lib.hid (block_after hb); have HS := Lib.hid HB7.out.size) | (have zb := Lib.hid (step_below_d HBQ.out hb); have zt := zb; clear BH HS; have BH := Lib.hid (block_after_d hb); have HS := Lib.hid HBQ.out.size));  clear HB7 ho hb; have HB7 := zb; clear zb zt) | (go_at_call 7; (with_reducible refine (RB.out _ ?hb4).mono ?_); (case hb4 => first | exact HB0.out.trans (HB7.out.mono HB0.out.size) | exact HB0.out.trans ((HB7.out.alloc HB7.out.size _).mono HB0.out.size)); rintro e w4 ⟨vv, rfl, ho, hb⟩; obtain ⟨gd, rfl⟩ := ho.form; have HO4 := Lib.hid ho; (first | (have zb := Lib.hid (HB7.out.trans (hb.mono HB7.out.size)); have zt := Lib.hid hb) | (have zb := Lib.hid (step_below HB7.out hb); have zt := Lib.hid (alloc_trans hb); clear BH HS; have BH := Lib.hid (block_after hb); have HS := Lib.hid HB7.out.size)); (try (have z := Lib.hid (block_later BH.out zt.out); clear BH; have BH := z; clear z)); (have z := Lib.hid (RoomyAt.below HO3.out zt.out); clear HO3; have HO3 := z; clear z);  clear HB7 ho hb; have HB7 := zb; clear zb zt) | (go_at_call 8; (with_reducible refine (RP.out _ ?hb5).mono ?_); (case hb5 => first | exact HB0.out.trans (HB7.out.mono HB0.out.size) | exact HB0.out.trans ((HB7.out.alloc HB7.out.size _).mono HB0.out.size)); rintro e w5 ⟨rm, rp, rfl, ho, hb⟩; obtain ⟨gm, rfl⟩ := ho.1.form; obtain ⟨gp, rfl⟩ := ho.2.form; have HO5 := Lib.hid ho; (first | (have zb := Lib.hid (HB7.out.trans (hb.mono HB7.out.size)); have zt := Lib.hid hb) | (have zb := Lib.hid (step_below HB7.out hb); have zt := Lib.hid (alloc_trans hb); clear BH HS; have BH := Lib.hid (block_after hb); have HS := Lib.hid HB7.out.size)); (try (have z := Lib.hid (block_later BH.out zt.out); clear BH; have BH := z; clear z)); (have z := Lib.hid (RoomyAt.below HO3.out zt.out); clear HO3; have HO3 := z; clear z); (have z := Lib.hid (RoomyAt.below HO4.out zt.out); clear HO4; have HO4 := z; clear z);  clear HB7 ho hb; have HB7 := zb; clear zb zt; (try (have kk := row2 BH.out; obtain ⟨k0, k1, g0, g1⟩ := kk))))
      all_goals (go_wp2_with fail; go_meet; first
        | exact ⟨_, _, _, rfl, makesC_of HB0.out (set_below HB7.out BH.out HS.out _ _) KW.out IN.out.1 IN.out.2.1 IN.out.2.2.1 IN.out.2.2.2.1 IN.out.2.2.2.2 (roomy_box HO3.out BH.out) (roomy_box HO4.out BH.out) ⟨roomy_box HO5.out.1 BH.out, roomy_box HO5.out.2 BH.out⟩ (row2_set BH.out), HB0.out.trans ((set_below HB7.out BH.out HS.out _ _).mono HB0.out.size)⟩
        | exact ⟨_, _, _, rfl, makesC_of HB0.out (HB7.out.alloc HB7.out.size _) KW.out IN.out.1 IN.out.2.1 IN.out.2.2.1 IN.out.2.2.2.1 IN.out.2.2.2.2 (HO3.out.below ((Below.refl _ _).alloc (Nat.le_refl _) _)) (HO4.out.below ((Below.refl _ _).alloc (Nat.le_refl _) _)) (HO5.out.below ((Below.refl _ _).alloc (Nat.le_refl _) _)) boxP_new, HB0.out.trans ((HB7.out.alloc HB7.out.size _).mono HB0.out.size)⟩)
  case rest =>
    obtain ⟨go, rm, rp, rfl, hmx, hbx⟩ := hcut
    clear RA RB RP IN HB0 SB KW hW
    obtain ⟨gc, rfl⟩ := hmx.c.form
    obtain ⟨gd, rfl⟩ := hmx.d.form
    obtain ⟨gm, rfl⟩ := hmx.o.1.form
    obtain ⟨gp, rfl⟩ := hmx.o.2.form
    have HM := Lib.hid hmx
    have HBX := Lib.hid hbx
    clear hmx hbx
    obtain ⟨z, hD⟩ : ∃ z, diffN a b = z := ⟨_, rfl⟩
    obtain ⟨D, eD⟩ := z
    obtain ⟨z, hL⟩ : ∃ z, behindN true a p = z := ⟨_, rfl⟩
    obtain ⟨L, eL⟩ := z
    obtain ⟨z, hN⟩ : ∃ z, behindN false a p = z := ⟨_, rfl⟩
    obtain ⟨N, eN⟩ := z
    have lD := diffN_len a b
    rw [hD] at lD
    have lL := behindN_len true a p
    rw [hL] at lL
    have lN := behindN_len false a p
    rw [hN] at lN
    simp only at lD lL lN
    have lD1 : D.minus.length ≤ 2097152 := by have := NN.out.1.1; omega
    have lD2 : D.plus.length ≤ 2097152 := by have := NN.out.2.1.1; omega
    have lL1 : L.length ≤ 2097152 := by have := NN.out.1.1; have := NN.out.2.2.2.1; omega
    have lN1 : N.length ≤ 2097152 := by have := NN.out.1.1; have := NN.out.2.2.2.1; omega
    clear lD lL lN
    have D1 : Hid (∀ u, Below wc.heap.size wc u → Calls Tryz.prog 9 #[(.slice (some ⟨gc, 0, none⟩) a.length (a.length + 2)), (.slice (some ⟨gd, 0, none⟩) b.length (b.length + 2))] u fun e w' => ∃ x y, e = .returned (.tuple #[.agg #[x, y], .int .i64 eD]) ∧ PFresh u.heap.size x y D w' ∧ Below u.heap.size u w') := Lib.hid (fun u hb => by
      have h := HM.out.below hb
      have h := patchDiff_l set_ok a b _ _ u h.T h.M h.c.view h.d.view NN.out.1 NN.out.2.1
      rw [hD] at h
      exact h)
    have D2 : Hid (∀ u, Below wc.heap.size wc u → Calls Tryz.prog 10 #[(.slice pa a.length ca), (.slice pb b.length cb)] u fun e w' => ∃ x y, e = .returned (.tuple #[.agg #[x, y], .int .i64 eD]) ∧ PFresh u.heap.size x y D w' ∧ Below u.heap.size u w') := Lib.hid (fun u hb => by
      have h := HM.out.below hb
      have h := ref23Diff_l a b _ _ u h.v0 h.v1 NN.out.1 NN.out.2.1
      rw [hD] at h
      exact h)
    have A1 : Hid (∀ u, Below wc.heap.size wc u → Calls Tryz.prog 11 #[(.slice (some ⟨gc, 0, none⟩) a.length (a.length + 2)), .agg #[(.slice (some ⟨gm, 0, none⟩) p.minus.length (p.minus.length + 2)), (.slice (some ⟨gp, 0, none⟩) p.plus.length (p.plus.length + 2))]] u fun e w' => ∃ v, e = .returned (.tuple #[v, .int .i64 eL]) ∧ QOwn u.heap.size v L w' ∧ Below u.heap.size u w') := Lib.hid (fun u hb => by
      have h := HM.out.below hb
      have h := apply_l set_ok a _ p _ _ u h.T h.M h.c.view h.o.view NN.out.1 NN.out.2.2
      rw [hL] at h
      exact h)
    have A2 : Hid (∀ u, Below wc.heap.size wc u → Calls Tryz.prog 12 #[(.slice pa a.length ca), .agg #[(.slice pm p.minus.length cm), (.slice pp p.plus.length cp)], .bool false] u fun e w' => ∃ v, e = .returned (.tuple #[v, .int .i64 eL]) ∧ QOwn u.heap.size v L w' ∧ Below u.heap.size u w') := Lib.hid (fun u hb => by
      have h := HM.out.below hb
      have h := ref23Apply_l false a _ p _ _ u h.v0 h.P NN.out.1 NN.out.2.2
      rw [show (!false) = true from rfl, hL] at h
      exact h)
    have F1 : Hid (∀ u, Below wc.heap.size wc u → Calls Tryz.prog 13 #[(.slice (some ⟨gc, 0, none⟩) a.length (a.length + 2)), .agg #[(.slice (some ⟨gm, 0, none⟩) p.minus.length (p.minus.length + 2)), (.slice (some ⟨gp, 0, none⟩) p.plus.length (p.plus.length + 2))]] u fun e w' => ∃ v, e = .returned (.tuple #[v, .int .i64 eN]) ∧ QOwn u.heap.size v N w' ∧ Below u.heap.size u w') := Lib.hid (fun u hb => by
      have h := HM.out.below hb
      have h := force_l set_ok a _ p _ _ u h.T h.M h.c.view h.o.view NN.out.1 NN.out.2.2
      rw [hN] at h
      exact h)
    have F2 : Hid (∀ u, Below wc.heap.size wc u → Calls Tryz.prog 12 #[(.slice pa a.length ca), .agg #[(.slice pm p.minus.length cm), (.slice pp p.plus.length cp)], .bool true] u fun e w' => ∃ v, e = .returned (.tuple #[v, .int .i64 eN]) ∧ QOwn u.heap.size v N w' ∧ Below u.heap.size u w') := Lib.hid (fun u hb => by
      have h := HM.out.below hb
      have h := ref23Apply_l true a _ p _ _ u h.v0 h.P NN.out.1 NN.out.2.2
      rw [show (!true) = false from rfl, hN] at h
      exact h)
    have C1 : Hid (∀ u, Below wc.heap.size wc u → Calls Tryz.prog 16 #[.agg #[(.slice (some ⟨gm, 0, none⟩) p.minus.length (p.minus.length + 2)), (.slice (some ⟨gp, 0, none⟩) p.plus.length (p.plus.length + 2))]] u fun e w' => e = .returned (.int .i64 (checkN p)) ∧ Below u.heap.size u w') := Lib.hid (fun u hb => by
      have h := HM.out.below hb
      have h := patchCheck_l set_ok p _ _ u h.T h.M h.o.view NN.out.2.2
      exact h)
    have C2 : Hid (∀ u, Below wc.heap.size wc u → Calls Tryz.prog 17 #[.agg #[(.slice pm p.minus.length cm), (.slice pp p.plus.length cp)]] u fun e w' => e = .returned (.int .i64 (checkN p)) ∧ Below u.heap.size u w') := Lib.hid (fun u hb => by
      have h := HM.out.below hb
      have h := ref23Check_l p _ _ u h.P NN.out.2.2
      exact h)
    have KA : Hid (∀ u, Below wc.heap.size wc u → Calls Tryz.prog 20 #[(.slice (some ⟨gc, 0, none⟩) a.length (a.length + 2)), (.slice pa a.length ca)] u fun e w' => e = .returned (.bool true) ∧ Below u.heap.size u w') := Lib.hid (fun u hb => by
      have h := HM.out.below hb
      have h := kept_l a _ _ u h.c h.v0 (by have := NN.out.1.1; omega)
      exact h)
    have KB : Hid (∀ u, Below wc.heap.size wc u → Calls Tryz.prog 20 #[(.slice (some ⟨gd, 0, none⟩) b.length (b.length + 2)), (.slice pb b.length cb)] u fun e w' => e = .returned (.bool true) ∧ Below u.heap.size u w') := Lib.hid (fun u hb => by
      have h := HM.out.below hb
      have h := kept_l b _ _ u h.d h.v1 (by have := NN.out.2.1.1; omega)
      exact h)
    have KP : Hid (∀ u, Below wc.heap.size wc u → Calls Tryz.prog 21 #[.agg #[(.slice (some ⟨gm, 0, none⟩) p.minus.length (p.minus.length + 2)), (.slice (some ⟨gp, 0, none⟩) p.plus.length (p.plus.length + 2))], .agg #[(.slice pm p.minus.length cm), (.slice pp p.plus.length cp)]] u fun e w' => e = .returned (.bool true) ∧ Below u.heap.size u w') := Lib.hid (fun u hb => by
      have h := HM.out.below hb
      have h := keptP_l p _ _ _ _ u h.o h.P NN.out.2.2
      exact h)
    have HB7 : Hid (Below wc.heap.size wc wc) := Lib.hid (Below.refl _ _)
    clear hD hL hN NN
    as_aux_lemma =>
      go_upto_region 3 with (go_at_call 9; (with_reducible refine (D1.out _ HB7.out).mono ?_); rintro e y1 ⟨mz, pz, rfl, hf, hb⟩; obtain ⟨max, mcx, rfl⟩ := hf.1.view.form; obtain ⟨pax, pcx, rfl⟩ := hf.2.1.view.form; have HF := Lib.hid (PFresh.less hf HB7.out.size); have HX := Lib.hid hb; clear hf hb)
      have HX2 : Hid (Below wc.heap.size wc (y1.alloc (.cells #[.slice max D.minus.length mcx, .slice pax D.plus.length pcx] 24))) := Lib.hid (HX.out.alloc HX.out.size _)
      have Px : Hid (PFresh wc.heap.size (.slice max D.minus.length mcx) (.slice pax D.plus.length pcx) D (y1.alloc (.cells #[.slice max D.minus.length mcx, .slice pax D.plus.length pcx] 24))) := Lib.hid (HF.out.below ((Below.refl _ _).alloc (Nat.le_refl _) _))
      have Kx := Lib.hid (boxP_new (w := y1) (x := .slice max D.minus.length mcx) (y := .slice pax D.plus.length pcx) (T := 24))
      have HB8 := Lib.hid (HB7.out.trans (HX2.out.mono HB7.out.size))
      clear HB7
      have HB7 := HB8
      clear HB8
      clear HX HX2 HF
      generalize hV1 : y1.alloc (.cells #[.slice max D.minus.length mcx, .slice pax D.plus.length pcx] 24) = V1 at HB7 Px Kx ⊢
      clear hV1
      as_aux_lemma =>
        go_upto_region 4 with (go_at_call 10; (with_reducible refine (D2.out _ HB7.out).mono ?_); rintro e y2 ⟨mz, pz, rfl, hf, hb⟩; obtain ⟨may, mcy, rfl⟩ := hf.1.view.form; obtain ⟨pay, pcy, rfl⟩ := hf.2.1.view.form; have HF := Lib.hid hf.view; have HX := Lib.hid hb; clear hf hb)
        have HX2 : Hid (Below V1.heap.size V1 (y2.alloc (.cells #[.slice may D.minus.length mcy, .slice pay D.plus.length pcy] 24))) := Lib.hid (HX.out.alloc HX.out.size _)
        have Py : Hid (PView (y2.alloc (.cells #[.slice may D.minus.length mcy, .slice pay D.plus.length pcy] 24)) (.slice may D.minus.length mcy) (.slice pay D.plus.length pcy) D) := Lib.hid (HF.out.below ((Below.refl _ _).alloc (Nat.le_refl _) _))
        have Ky := Lib.hid (boxP_new (w := y2) (x := .slice may D.minus.length mcy) (y := .slice pay D.plus.length pcy) (T := 24))
        have Px_ := Lib.hid (PFresh.below Px.out HX2.out)
        clear Px
        have Px := Px_
        clear Px_
        have Kx_ := Lib.hid (boxP_kept Kx.out HX2.out)
        clear Kx
        have Kx := Kx_
        clear Kx_
        have HB8 := Lib.hid (HB7.out.trans (HX2.out.mono HB7.out.size))
        clear HB7
        have HB7 := HB8
        clear HB8
        clear HX HX2 HF
        generalize hV2 : y2.alloc (.cells #[.slice may D.minus.length mcy, .slice pay D.plus.length pcy] 24) = V2 at HB7 Px Kx Py Ky ⊢
        clear hV2
        as_aux_lemma =>
          obtain ⟨o0, o1⟩ := (HM.out.below HB7.out).ko
          go_upto_region 5 with (go_at_call 11; (with_reducible refine (A1.out _ HB7.out).mono ?_); rintro e y3 ⟨vv, rfl, ho, hb⟩; obtain ⟨lal, lcl, rfl⟩ := ho.view.form; have APxl := Lib.hid (And.intro (QOwn.apart Px.out.1 ho (Nat.le_refl _)) (QOwn.apart Px.out.2.1 ho (Nat.le_refl _))); have Ll := Lib.hid (ho.less HB7.out.size); have HX := Lib.hid hb; clear ho hb)
          clear o0 o1
          have Px_ := Lib.hid (PFresh.below Px.out HX.out)
          clear Px
          have Px := Px_
          clear Px_
          have Kx_ := Lib.hid (boxP_kept Kx.out HX.out)
          clear Kx
          have Kx := Kx_
          clear Kx_
          have Py_ := Lib.hid (PView.below Py.out HX.out)
          clear Py
          have Py := Py_
          clear Py_
          have Ky_ := Lib.hid (boxP_kept Ky.out HX.out)
          clear Ky
          have Ky := Ky_
          clear Ky_
          have HB8 := Lib.hid (HB7.out.trans (HX.out.mono HB7.out.size))
          clear HB7
          have HB7 := HB8
          clear HB8
          clear HX
          as_aux_lemma =>
            obtain ⟨o0, o1⟩ := (HM.out.below HB7.out).kp
            go_upto_region 6 with (go_at_call 12; (with_reducible refine (A2.out _ HB7.out).mono ?_); rintro e y4 ⟨vv, rfl, ho, hb⟩; obtain ⟨lam, lcm, rfl⟩ := ho.view.form; have APxm := Lib.hid (And.intro (QOwn.apart Px.out.1 ho (Nat.le_refl _)) (QOwn.apart Px.out.2.1 ho (Nat.le_refl _))); have APlm := Lib.hid (QOwn.apart Ll.out ho (Nat.le_refl _)); have Lm := Lib.hid (ho.less HB7.out.size); have HX := Lib.hid hb; clear ho hb)
            clear o0 o1
            have Px_ := Lib.hid (PFresh.below Px.out HX.out)
            clear Px
            have Px := Px_
            clear Px_
            have Kx_ := Lib.hid (boxP_kept Kx.out HX.out)
            clear Kx
            have Kx := Kx_
            clear Kx_
            have Py_ := Lib.hid (PView.below Py.out HX.out)
            clear Py
            have Py := Py_
            clear Py_
            have Ky_ := Lib.hid (boxP_kept Ky.out HX.out)
            clear Ky
            have Ky := Ky_
            clear Ky_
            have Ll_ := Lib.hid (QOwn.below Ll.out HX.out)
            clear Ll
            have Ll := Ll_
            clear Ll_
            have HB8 := Lib.hid (HB7.out.trans (HX.out.mono HB7.out.size))
            clear HB7
            have HB7 := HB8
            clear HB8
            clear HX
            as_aux_lemma =>
              obtain ⟨o0, o1⟩ := (HM.out.below HB7.out).ko
              go_upto_region 7 with (go_at_call 13; (with_reducible refine (F1.out _ HB7.out).mono ?_); rintro e y5 ⟨vv, rfl, ho, hb⟩; obtain ⟨lan, lcn, rfl⟩ := ho.view.form; have APxn := Lib.hid (And.intro (QOwn.apart Px.out.1 ho (Nat.le_refl _)) (QOwn.apart Px.out.2.1 ho (Nat.le_refl _))); have APln := Lib.hid (QOwn.apart Ll.out ho (Nat.le_refl _)); have APmn := Lib.hid (QOwn.apart Lm.out ho (Nat.le_refl _)); have Ln := Lib.hid (ho.less HB7.out.size); have HX := Lib.hid hb; clear ho hb)
              clear o0 o1
              have Px_ := Lib.hid (PFresh.below Px.out HX.out)
              clear Px
              have Px := Px_
              clear Px_
              have Kx_ := Lib.hid (boxP_kept Kx.out HX.out)
              clear Kx
              have Kx := Kx_
              clear Kx_
              have Py_ := Lib.hid (PView.below Py.out HX.out)
              clear Py
              have Py := Py_
              clear Py_
              have Ky_ := Lib.hid (boxP_kept Ky.out HX.out)
              clear Ky
              have Ky := Ky_
              clear Ky_
              have Ll_ := Lib.hid (QOwn.below Ll.out HX.out)
              clear Ll
              have Ll := Ll_
              clear Ll_
              have Lm_ := Lib.hid (QOwn.below Lm.out HX.out)
              clear Lm
              have Lm := Lm_
              clear Lm_
              have HB8 := Lib.hid (HB7.out.trans (HX.out.mono HB7.out.size))
              clear HB7
              have HB7 := HB8
              clear HB8
              clear HX
              as_aux_lemma =>
                obtain ⟨o0, o1⟩ := (HM.out.below HB7.out).kp
                go_upto_region 8 with (go_at_call 12; (with_reducible refine (F2.out _ HB7.out).mono ?_); rintro e y6 ⟨vv, rfl, ho, hb⟩; obtain ⟨lak, lck, rfl⟩ := ho.view.form; have APxk := Lib.hid (And.intro (QOwn.apart Px.out.1 ho (Nat.le_refl _)) (QOwn.apart Px.out.2.1 ho (Nat.le_refl _))); have APlk := Lib.hid (QOwn.apart Ll.out ho (Nat.le_refl _)); have APmk := Lib.hid (QOwn.apart Lm.out ho (Nat.le_refl _)); have APnk := Lib.hid (QOwn.apart Ln.out ho (Nat.le_refl _)); have Lk := Lib.hid (ho.less HB7.out.size); have HX := Lib.hid hb; clear ho hb)
                clear o0 o1
                have Px_ := Lib.hid (PFresh.below Px.out HX.out)
                clear Px
                have Px := Px_
                clear Px_
                have Kx_ := Lib.hid (boxP_kept Kx.out HX.out)
                clear Kx
                have Kx := Kx_
                clear Kx_
                have Py_ := Lib.hid (PView.below Py.out HX.out)
                clear Py
                have Py := Py_
                clear Py_
                have Ky_ := Lib.hid (boxP_kept Ky.out HX.out)
                clear Ky
                have Ky := Ky_
                clear Ky_
                have Ll_ := Lib.hid (QOwn.below Ll.out HX.out)
                clear Ll
                have Ll := Ll_
                clear Ll_
                have Lm_ := Lib.hid (QOwn.below Lm.out HX.out)
                clear Lm
                have Lm := Lm_
                clear Lm_
                have Ln_ := Lib.hid (QOwn.below Ln.out HX.out)
                clear Ln
                have Ln := Ln_
                clear Ln_
                have HB8 := Lib.hid (HB7.out.trans (HX.out.mono HB7.out.size))
                clear HB7
                have HB7 := HB8
                clear HB8
                clear HX
                as_aux_lemma =>
                  have SM := Lib.hid (fun (u : World) (hb : Below y6.heap.size y6 u) => same_t D _ _ _ _ u (Px.out.view.below hb) (Py.out.below hb) (by omega) (by omega))
                  have S1 := Lib.hid (fun (u : World) (hb : Below y6.heap.size y6 u) => sameQuads_t L _ _ u (Ll.out.view.below hb) (Lm.out.view.below hb) (by omega))
                  have S2 := Lib.hid (fun (u : World) (hb : Below y6.heap.size y6 u) => sameQuads_t N _ _ u (Ln.out.view.below hb) (Lk.out.view.below hb) (by omega))
                  have CC1 := Lib.hid (fun (u : World) (hb : Below y6.heap.size y6 u) => C1.out u (HB7.out.trans (hb.mono HB7.out.size)))
                  have CC2 := Lib.hid (fun (u : World) (hb : Below y6.heap.size y6 u) => C2.out u (HB7.out.trans (hb.mono HB7.out.size)))
                  have SB : Hid (∀ w', Below y6.heap.size y6 w' → w'.cell? ⟨go, 0, none⟩ = some (.slice (some ⟨gm, 0, none⟩) p.minus.length (p.minus.length + 2)) ∧ w'.cell? ⟨go, 1, none⟩ = some (.slice (some ⟨gp, 0, none⟩) p.plus.length (p.plus.length + 2)) ∧ w'.cell? ⟨y1.heap.size, 0, none⟩ = some (.slice max D.minus.length mcx) ∧ w'.cell? ⟨y1.heap.size, 1, none⟩ = some (.slice pax D.plus.length pcx) ∧ w'.cell? ⟨y2.heap.size, 0, none⟩ = some (.slice may D.minus.length mcy) ∧ w'.cell? ⟨y2.heap.size, 1, none⟩ = some (.slice pay D.plus.length pcy) ∧ w'.cell? ⟨w.heap.size, 0, none⟩ = some (.slice pm p.minus.length cm) ∧ w'.cell? ⟨w.heap.size, 1, none⟩ = some (.slice pp p.plus.length cp)) := Lib.hid (fun w' hb => by
                      have h := HM.out.below (HB7.out.trans (hb.mono HB7.out.size))
                      exact ⟨h.ko.1, h.ko.2, (boxP_kept Kx.out hb).1, (boxP_kept Kx.out hb).2, (boxP_kept Ky.out hb).1, (boxP_kept Ky.out hb).2, h.kp.1, h.kp.2⟩)
                  have HBV : Hid (Below y6.heap.size y6 y6.drew) := Lib.hid (below_drewN y6 1)
                  go_region_held3 (fun w' => w'.cell? ⟨go, 0, none⟩ = some (.slice (some ⟨gm, 0, none⟩) p.minus.length (p.minus.length + 2)) ∧ w'.cell? ⟨go, 1, none⟩ = some (.slice (some ⟨gp, 0, none⟩) p.plus.length (p.plus.length + 2)) ∧ w'.cell? ⟨y1.heap.size, 0, none⟩ = some (.slice max D.minus.length mcx) ∧ w'.cell? ⟨y1.heap.size, 1, none⟩ = some (.slice pax D.plus.length pcx) ∧ w'.cell? ⟨y2.heap.size, 0, none⟩ = some (.slice may D.minus.length mcy) ∧ w'.cell? ⟨y2.heap.size, 1, none⟩ = some (.slice pay D.plus.length pcy) ∧ w'.cell? ⟨w.heap.size, 0, none⟩ = some (.slice pm p.minus.length cm) ∧ w'.cell? ⟨w.heap.size, 1, none⟩ = some (.slice pp p.plus.length cp)) (first | exact SB.out _ HBV.out) (first | (go_at_call 14; (with_reducible refine (SM.out _ HBV.out).mono ?_); rintro e z1 ⟨rfl, hb⟩; have HB8 := Lib.hid (HBV.out.trans (hb.mono HBV.out.size)); clear HBV hb; have HBV := HB8; clear HB8) | (go_at_call 15; (with_reducible refine (S1.out _ HBV.out).mono ?_); rintro e z2 ⟨rfl, hb⟩; have HB8 := Lib.hid (HBV.out.trans (hb.mono HBV.out.size)); clear HBV hb; have HBV := HB8; clear HB8) | (go_at_call 15; (with_reducible refine (S2.out _ HBV.out).mono ?_); rintro e z3 ⟨rfl, hb⟩; have HB8 := Lib.hid (HBV.out.trans (hb.mono HBV.out.size)); clear HBV hb; have HBV := HB8; clear HB8) | (go_at_call 16; (with_reducible refine (CC1.out _ HBV.out).mono ?_); rintro e z4 ⟨rfl, hb⟩; have HB8 := Lib.hid (HBV.out.trans (hb.mono HBV.out.size)); clear HBV hb; have HBV := HB8; clear HB8) | (go_at_call 17; (with_reducible refine (CC2.out _ HBV.out).mono ?_); rintro e z5 ⟨rfl, hb⟩; have HB8 := Lib.hid (HBV.out.trans (hb.mono HBV.out.size)); clear HBV hb; have HBV := HB8; clear HB8))
                  clear SB SM S1 S2 CC1 CC2
                  clear Py Ky Lm C1 C2 D1 D2 A1 A2 F1 F2
                  have Px_ := Lib.hid (PFresh.below Px.out HBV.out)
                  clear Px
                  have Px := Px_
                  clear Px_
                  have Kx_ := Lib.hid (boxP_kept Kx.out HBV.out)
                  clear Kx
                  have Kx := Kx_
                  clear Kx_
                  have Ll_ := Lib.hid (QOwn.below Ll.out HBV.out)
                  clear Ll
                  have Ll := Ll_
                  clear Ll_
                  have Ln_ := Lib.hid (QOwn.below Ln.out HBV.out)
                  clear Ln
                  have Ln := Ln_
                  clear Ln_
                  have Lk_ := Lib.hid (QOwn.below Lk.out HBV.out)
                  clear Lk
                  have Lk := Lk_
                  clear Lk_
                  have HB8 := Lib.hid (HB7.out.trans (HBV.out.mono HB7.out.size))
                  clear HB7
                  have HB7 := HB8
                  clear HB8
                  clear HBV
                  as_aux_lemma =>
                    obtain ⟨x0, x1⟩ := Kx.out
                    have OV := Lib.hid (overP_l wc.heap.size D _ _ _ Px.out HB7.out.size ⟨lD1, lD2⟩)
                    go_upto_region 11 with (go_at_call 18; (with_reducible refine OV.out.mono ?_); rintro e t1 ⟨rfl, h2⟩; have H2 := Lib.hid h2; clear h2)
                    clear x0 x1 Kx OV
                    have HX := Lib.hid (H2.out.below HB7.out.size (own_base Px.out.1) (own_base Px.out.2.1))
                    have HB8 := Lib.hid (HB7.out.trans HX.out)
                    clear HB7 HX
                    have HB7 := HB8
                    clear HB8
                    have Ll_ := Lib.hid (H2.out.own Ll.out APxl.out.1 APxl.out.2)
                    clear Ll
                    have Ll := Ll_
                    clear Ll_
                    have Ln_ := Lib.hid (H2.out.own Ln.out APxn.out.1 APxn.out.2)
                    clear Ln
                    have Ln := Ln_
                    clear Ln_
                    have Lk_ := Lib.hid (H2.out.own Lk.out APxk.out.1 APxk.out.2)
                    clear Lk
                    have Lk := Lk_
                    clear Lk_
                    clear Px H2
                    as_aux_lemma =>
                      have OV := Lib.hid (over_l wc.heap.size _ _ _ _ Ll.out lL1 HB7.out.size)
                      go_upto_region 12 with (go_at_call 19; (with_reducible refine OV.out.mono ?_); rintro e t2 ⟨rfl, h2⟩; have H2 := Lib.hid h2; clear h2)
                      clear OV
                      have HX := Lib.hid (belowR H2.out HB7.out.size (own_base Ll.out))
                      have HB8 := Lib.hid (HB7.out.trans HX.out)
                      clear HB7 HX
                      have HB7 := HB8
                      clear HB8
                      have Ln_ : Hid (QOwn wc.heap.size (.slice lan N.length lcn) N t2) := Lib.hid (ownsRow_grown Ln.out H2.out (fun k e1 e2 => APln.out k e2.symm e1))
                      clear Ln
                      have Ln := Ln_
                      clear Ln_
                      have Lk_ : Hid (QOwn wc.heap.size (.slice lak N.length lck) N t2) := Lib.hid (ownsRow_grown Lk.out H2.out (fun k e1 e2 => APlk.out k e2.symm e1))
                      clear Lk
                      have Lk := Lk_
                      clear Lk_
                      clear Ll H2
                      as_aux_lemma =>
                        have S3 := Lib.hid (sameQuads_t N _ _ t2 Ln.out.view Lk.out.view (by omega))
                        clear Ln Lk
                        go_wp2_with (first | (go_at_call 15; (with_reducible refine (S3.out).mono ?_); rintro e r1 ⟨rfl, hb⟩; have HB8 := Lib.hid (HB7.out.trans (hb.mono HB7.out.size)); clear HB7 hb; have HB7 := HB8; clear HB8) | (go_at_call 20; (with_reducible refine (KA.out _ HB7.out).mono ?_); rintro e r2 ⟨rfl, hb⟩; have HB8 := Lib.hid (HB7.out.trans (hb.mono HB7.out.size)); clear HB7 hb; have HB7 := HB8; clear HB8; clear KA) | (go_at_call 20; (with_reducible refine (KB.out _ HB7.out).mono ?_); rintro e r3 ⟨rfl, hb⟩; have HB8 := Lib.hid (HB7.out.trans (hb.mono HB7.out.size)); clear HB7 hb; have HB7 := HB8; clear HB8; obtain ⟨o0, o1⟩ := (HM.out.below HB7.out).ko; obtain ⟨q0, q1⟩ := (HM.out.below HB7.out).kp) | (go_at_call 21; (with_reducible refine (KP.out _ HB7.out).mono ?_); rintro e r4 ⟨rfl, hb⟩; have HB8 := Lib.hid (HB7.out.trans (hb.mono HB7.out.size)); clear HB7 hb; have HB7 := HB8; clear HB8))
                        go_ret
                        exact ⟨rfl, HBX.out.trans (HB7.out.mono HBX.out.size)⟩
end Go.Proofs.YthipcepgbegaiaaGreatDoor
