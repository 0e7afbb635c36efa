/-
  patch.Invert: contracts. By an AI agent.
-/
import Derived.Test.YthipcepgbegaiaaGreatDoorZPatchW2
import Derived.Test.YthipcepgbegaiaaGreatDoorZSets2
import Derived.Test.YthipcepgbegaiaaGreatDoorZRef23W1
import Derived.Test.YthipcepgbegaiaaGreatDoorZSameQ
namespace Go.Proofs.YthipcepgbegaiaaGreatDoor
open Go.RowKit
set_option maxRecDepth 100000
theorem two_keep {w u : World} {x y v : Value} {k : Nat} (h : u.cell? ⟨w.heap.size, 0, none⟩ = some x ∧ u.cell? ⟨w.heap.size, 1, none⟩ = some y) :
    (u.setCell ⟨w.heap.size + 1, k, none⟩ v).cell? ⟨w.heap.size, 0, none⟩ = some x ∧ (u.setCell ⟨w.heap.size + 1, k, none⟩ v).cell? ⟨w.heap.size, 1, none⟩ = some y := by
  refine ⟨?_, ?_⟩
  · rw [World.cell?_setCell_other _ _ _ _ (by simp)]; exact h.1
  · rw [World.cell?_setCell_other _ _ _ _ (by simp)]; exact h.2
end Go.Proofs.YthipcepgbegaiaaGreatDoor

/-
  tesseralaw23.roomy, kept, over: contracts. By an AI agent.
-/
namespace Go.Proofs.YthipcepgbegaiaaGreatDoor
open Go.RowKit
set_option maxRecDepth 100000
/-- two roomy copies of a patch's lists -/
def PRoomy (w : World) (mv pv : Value) (p : PatchL) : Prop := RoomyAt w mv p.minus ∧ RoomyAt w pv p.plus
theorem PRoomy.below {w w' : World} {mv pv : Value} {p : PatchL} (h : PRoomy w mv pv p) (hb : Below w.heap.size w w') : PRoomy w' mv pv p := ⟨h.1.below hb, h.2.below hb⟩
theorem PRoomy.view {w : World} {mv pv : Value} {p : PatchL} (h : PRoomy w mv pv p) : PView w mv pv p := ⟨h.1.view, h.2.view⟩
theorem qat_set {w : World} {x : Value} {l : List QuadL} {b g k : Nat} (h : QAt w (some ⟨b, 0, none⟩) l) (hg : b ≠ g) : QAt (w.setCell ⟨g, k, none⟩ x) (some ⟨b, 0, none⟩) l := by
  intro j hj
  obtain ⟨b', o', e, hc⟩ := h j hj
  cases e
  exact ⟨b, 0, rfl, by rw [World.cell?_setCell_other _ _ _ _ (by simp <;> omega)]; exact hc⟩
theorem roomy_l (l : List QuadL) (v : Value) (w : World) (hV : QView w v l) (hn : l.length ≤ 1048576) :
    Calls Tryz.prog 7 #[v] w fun e w' => ∃ u, e = .returned u ∧ RoomyAt w' u l ∧ Below w.heap.size w w' :=
  (roomyB_l l v w hV hn).mono fun e w' ⟨he, hq, hb⟩ => ⟨_, he, ⟨_, rfl, hq⟩, hb⟩
set_option maxHeartbeats 4000000 in
theorem roomyP_l (p : PatchL) (mv pv : Value) (w : World) (h : PView w mv pv p) (hN : NeatP p) :
    Calls Tryz.prog 8 #[.agg #[mv, pv]] w fun e w' => ∃ rm rp, e = .returned (.agg #[rm, rp]) ∧ PRoomy w' rm rp p ∧ Below w.heap.size w w' := by
  have M1 := Lib.hid (fun (u : World) (hb : Below w.heap.size w u) => roomyB_l p.minus mv u (h.1.below hb) (by have := hN.1.1; omega))
  have M2 := Lib.hid (fun (u : World) (hb : Below w.heap.size w u) => roomyB_l p.plus pv u (h.2.below hb) (by have := hN.2.1; omega))
  obtain ⟨pm, cm, rfl⟩ := h.1.form
  obtain ⟨pp, cp, rfl⟩ := h.2.form
  have HB0 : Hid (Below w.heap.size w ((w.alloc (.cells #[.slice pm p.minus.length cm, .slice pp p.plus.length cp] 24)).alloc (.cells #[.slice none 0 0, .slice none 0 0] 24))) := Lib.hid (((Below.refl _ _).alloc (Nat.le_refl _) _).alloc (by simp) _)
  have SB : Hid (∀ w', Below ((w.alloc (.cells #[.slice pm p.minus.length cm, .slice pp p.plus.length cp] 24)).alloc (.cells #[.slice none 0 0, .slice none 0 0] 24)).heap.size ((w.alloc (.cells #[.slice pm p.minus.length cm, .slice pp p.plus.length cp] 24)).alloc (.cells #[.slice none 0 0, .slice none 0 0] 24)) w' → w'.cell? ⟨w.heap.size, 0, none⟩ = some (.slice pm p.minus.length cm) ∧ w'.cell? ⟨w.heap.size, 1, none⟩ = some (.slice pp p.plus.length cp) ∧ w'.cell? ⟨w.heap.size + 1, 0, none⟩ = some (.slice none 0 0) ∧ w'.cell? ⟨w.heap.size + 1, 1, none⟩ = some (.slice none 0 0) ∧ w'.frozen? ⟨w.heap.size + 1, 0, none⟩ = false ∧ w'.frozen? ⟨w.heap.size + 1, 1, none⟩ = false) := Lib.hid (fun w' h => by
    obtain ⟨h1, h2⟩ := held_2 h
    exact ⟨h1.c0, h1.c1, h2.c0, h2.c1, h2.f0, h2.f1⟩)
  have HSZ : Hid (w.heap.size + 1 < ((w.alloc (.cells #[.slice pm p.minus.length cm, .slice pp p.plus.length cp] 24)).alloc (.cells #[.slice none 0 0, .slice none 0 0] 24)).heap.size) := Lib.hid (by simp)
  clear h hN
  obtain ⟨W, hW⟩ : ∃ W, (w.alloc (.cells #[.slice pm p.minus.length cm, .slice pp p.plus.length cp] 24)).alloc (.cells #[.slice none 0 0, .slice none 0 0] 24) = W := ⟨_, rfl⟩
  rw [hW] at HB0 SB HSZ
  have HB7 : Hid (Below W.heap.size W W) := Lib.hid (Below.refl _ _)
  obtain ⟨c0, c1, c2, c3, f2, f3⟩ := SB.out _ HB7.out
  go_enter Tryz.func8, Tryz.ntmps8
  go_upto_region 1 with fail
  clear c0 c1 c2 c3 f2 f3
  have SB2 : Hid (∀ w', Below W.heap.size W w' → w'.cell? ⟨w.heap.size, 0, none⟩ = some (.slice pm p.minus.length cm) ∧ w'.cell? ⟨w.heap.size, 1, none⟩ = some (.slice pp p.plus.length cp)) := Lib.hid (fun w' h => by
    obtain ⟨z0, z1, _⟩ := SB.out w' h
    exact ⟨z0, z1⟩)
  have HB9 := Lib.hid (HB7.out.trans ((below_drewN _ 1).mono HB7.out.size))
  clear HB7
  have HB7 := HB9
  clear HB9
  go_region_held3 (fun w' => w'.cell? ⟨w.heap.size, 0, none⟩ = some (.slice pm p.minus.length cm) ∧ w'.cell? ⟨w.heap.size, 1, none⟩ = some (.slice pp p.plus.length cp)) (first | exact SB2.out _ HB7.out | exact two_keep (SB2.out _ HB7.out) | exact two_keep (two_keep (SB2.out _ HB7.out))) (first | (go_at_call 7; (with_reducible refine (M1.out _ ?hb).mono ?_); (case hb => exact HB0.out.trans (HB7.out.mono HB0.out.size)); rintro e w8 ⟨rfl, ho, hb8⟩; have HO8 := Lib.hid ho; have HX8 := Lib.hid hb8; have HP8 := HB7; clear ho; have HB8 := Lib.hid (HB7.out.trans (hb8.mono HB7.out.size)); clear HB7 hb8; have HB7 := HB8; clear HB8) | (go_at_call 7; (with_reducible refine (M2.out _ ?hb).mono ?_); (case hb => exact HB0.out.trans (HB7.out.mono HB0.out.size)); rintro e w9 ⟨rfl, ho, hb9⟩; have HO9 := Lib.hid ho; have HX9 := Lib.hid hb9; have HP9 := HB7; clear ho; have HB8 := Lib.hid (HB7.out.trans (hb9.mono HB7.out.size)); clear HB7 hb9; have HB7 := HB8; clear HB8; obtain ⟨_, _, c2, c3, f2, f3⟩ := SB.out _ HB7.out))
  go_wp2_with fail
  have z8 := Nat.lt_of_lt_of_le HSZ.out HP8.out.size
  have z9 := Nat.lt_of_lt_of_le HSZ.out HP9.out.size
  have z0 := HSZ.out
  
  refine bodyPost_ret (v := .agg #[.slice (some ⟨_, 0, none⟩) p.minus.length (p.minus.length + 2), .slice (some ⟨_, 0, none⟩) p.plus.length (p.plus.length + 2)]) (by simp [results, Tryz.results8, go_sem, c2, c3]; exact ⟨rfl, rfl⟩) rfl ?_
  refine ⟨_, _, rfl, ⟨⟨_, rfl, qat_set (qat_set (HO8.out.below HX9.out) (by omega)) (by omega)⟩, ⟨_, rfl, qat_set (qat_set HO9.out (by omega)) (by omega)⟩⟩, ?_⟩
  exact ((HB0.out.trans (HB7.out.mono HB0.out.size)).setCell (p := ⟨w.heap.size + 1, 0, none⟩) (by simp only; omega) _).setCell (p := ⟨w.heap.size + 1, 1, none⟩) (by simp only; omega) _
set_option maxHeartbeats 4000000 in
theorem keptP_l (p : PatchL) (rm rp mv pv : Value) (w : World) (hR : PRoomy w rm rp p) (h : PView w mv pv p) (hN : NeatP p) :
    Calls Tryz.prog 21 #[.agg #[rm, rp], .agg #[mv, pv]] w fun e w' => e = .returned (.bool true) ∧ Below w.heap.size w w' := by
  have K1 := Lib.hid (fun (u : World) (hb : Below w.heap.size w u) => kept_l p.minus rm mv u (hR.1.below hb) (h.1.below hb) (by have := hN.1.1; omega))
  have K2 := Lib.hid (fun (u : World) (hb : Below w.heap.size w u) => kept_l p.plus rp pv u (hR.2.below hb) (h.2.below hb) (by have := hN.2.1; omega))
  obtain ⟨gm, rfl⟩ := hR.1.form
  obtain ⟨gp, rfl⟩ := hR.2.form
  obtain ⟨pm, cm, rfl⟩ := h.1.form
  obtain ⟨pp, cp, rfl⟩ := h.2.form
  obtain ⟨W, hW⟩ : ∃ W, (w.alloc (.cells #[.slice (some ⟨gm, 0, none⟩) p.minus.length (p.minus.length + 2), .slice (some ⟨gp, 0, none⟩) p.plus.length (p.plus.length + 2)] 24)).alloc (.cells #[.slice pm p.minus.length cm, .slice pp p.plus.length cp] 24) = W := ⟨_, rfl⟩
  have HB0 : Hid (Below w.heap.size w W) := Lib.hid (by rw [← hW]; exact ((Below.refl _ _).alloc (Nat.le_refl _) _).alloc (by simp) _)
  have HB7 : Hid (Below W.heap.size W W) := Lib.hid (Below.refl _ _)
  have SB : Hid (∀ w', Below W.heap.size W w' → w'.cell? ⟨w.heap.size, 0, none⟩ = some (.slice (some ⟨gm, 0, none⟩) p.minus.length (p.minus.length + 2)) ∧ w'.cell? ⟨w.heap.size, 1, none⟩ = some (.slice (some ⟨gp, 0, none⟩) p.plus.length (p.plus.length + 2)) ∧ w'.cell? ⟨w.heap.size + 1, 0, none⟩ = some (.slice pm p.minus.length cm) ∧ w'.cell? ⟨w.heap.size + 1, 1, none⟩ = some (.slice pp p.plus.length cp)) := Lib.hid (fun w' hb => by
    rw [← hW] at hb
    obtain ⟨e1, e2⟩ := held2 rfl hb
    exact ⟨e1 0 _ rfl, e1 1 _ rfl, e2 0 _ rfl, e2 1 _ rfl⟩)
  obtain ⟨c0, c1, c2, c3⟩ := SB.out _ HB7.out
  clear hR h hN
  go_enter Tryz.func21, Tryz.ntmps21
  go_wp2_with (first | (go_at_call 20; (with_reducible refine (K1.out _ ?hb).mono ?_); (case hb => exact HB0.out.trans (HB7.out.mono HB0.out.size)); rintro e w3 ⟨rfl, hb3⟩; have HB8 := Lib.hid (HB7.out.trans (hb3.mono HB7.out.size)); clear HB7 hb3; have HB7 := HB8; clear HB8; clear K1 c0 c1 c2 c3; obtain ⟨c0, c1, c2, c3⟩ := SB.out _ HB7.out) | (go_at_call 20; (with_reducible refine (K2.out _ ?hb).mono ?_); (case hb => exact HB0.out.trans (HB7.out.mono HB0.out.size)); rintro e w4 ⟨rfl, hb4⟩; have HB8 := Lib.hid (HB7.out.trans (hb4.mono HB7.out.size)); clear HB7 hb4; have HB7 := HB8; clear HB8))
  go_ret
  exact ⟨rfl, HB0.out.trans (HB7.out.mono HB0.out.size)⟩
/-- nothing but what these two rows hold turns -/
structure Over2 (w : World) (u v : Value) (w' : World) : Prop where
  os : w'.os = w.os
  tape : w'.tape = w.tape
  output : w'.output = w.output
  size : w.heap.size ≤ w'.heap.size
  block : ∀ k, k < w.heap.size → u.ownBlock ≠ some k → v.ownBlock ≠ some k → w'.heap[k]? = w.heap[k]?
theorem Over2.own {w w' : World} {u v x : Value} {b : Nat} {l : List QuadL} (h : Over2 w u v w') (hx : QOwn b x l w) (h1 : Apart u x) (h2 : Apart v x) : QOwn b x l w' := by
  refine ⟨hx.1, ?_⟩
  rcases hx.2 with hn | ⟨g, cap, cur, rfl, e1, e2, rest⟩
  · exact .inl hn
  · refine .inr ⟨g, cap, cur, rfl, e1, ?_, rest⟩
    rw [h.block g (Array.getElem?_eq_some_iff.1 e2).1 (fun e => h1 g e rfl) (fun e => h2 g e rfl)]
    exact e2
theorem Over2.below {w w' : World} {u v : Value} {b : Nat} (h : Over2 w u v w') (hb : b ≤ w.heap.size) (h1 : ∀ k, u.ownBlock = some k → b ≤ k) (h2 : ∀ k, v.ownBlock = some k → b ≤ k) : Below b w w' :=
  ⟨h.os, h.tape, h.output, h.size, fun k hk => h.block k (by omega) (fun e => by have := h1 k e; omega) (fun e => by have := h2 k e; omega)⟩
set_option maxHeartbeats 4000000 in
theorem overP_l (base : Nat) (p : PatchL) (mv pv : Value) (w : World) (h : PFresh base mv pv p w) (hb0 : base ≤ w.heap.size) (hN : p.minus.length ≤ 2097152 ∧ p.plus.length ≤ 2097152) :
    Calls Tryz.prog 18 #[.agg #[mv, pv]] w fun e w' => e = .returned (.tuple #[]) ∧ Over2 w mv pv w' := by
  obtain ⟨pm, cm, rfl⟩ := h.1.view.form
  obtain ⟨pp, cp, rfl⟩ := h.2.1.view.form
  have O1 := Lib.hid (fun (u : World) (hb : Below w.heap.size w u) => over_l base _ _ _ u (ownsRow_below h.1 hb) hN.1 (Nat.le_trans hb0 hb.size))
  have O2 := Lib.hid (fun (u : World) (ho : QOwn base (.slice pp p.plus.length cp) p.plus u) (hs : base ≤ u.heap.size) => over_l base _ _ _ u ho hN.2 hs)
  have HP := Lib.hid h.2.1
  have HA := Lib.hid h.2.2
  obtain ⟨W, hW⟩ : ∃ W, w.alloc (.cells #[.slice pm p.minus.length cm, .slice pp p.plus.length cp] 24) = W := ⟨_, rfl⟩
  have HB0 : Hid (Below w.heap.size w W) := Lib.hid (by rw [← hW]; exact (Below.refl _ _).alloc (Nat.le_refl _) _)
  have SZ : Hid (∀ k, (Value.slice pm p.minus.length cm).ownBlock = some k → k < w.heap.size) := Lib.hid (own_lt h.1)
  have SZ2 : Hid (∀ k, (Value.slice pp p.plus.length cp).ownBlock = some k → k < w.heap.size) := Lib.hid (own_lt h.2.1)
  have SB : Hid (∀ w' r, W.grownBy w' r → (∀ k, r = some k → k < w.heap.size) → w'.cell? ⟨w.heap.size, 0, none⟩ = some (.slice pm p.minus.length cm) ∧ w'.cell? ⟨w.heap.size, 1, none⟩ = some (.slice pp p.plus.length cp)) := Lib.hid (fun w' r hg hr => by
    have e1 : W.heap.size = w.heap.size + 1 := by rw [← hW]; simp
    have e2 : w'.heap[w.heap.size]? = W.heap[w.heap.size]? := hg.block _ (by omega) (fun e => by have := hr _ e.symm; omega)
    have b := Box2.mk0 (w := w) (x := .slice pm p.minus.length cm) (y := .slice pp p.plus.length cp) (T := 24)
    rw [hW] at b
    exact ⟨(World.cell?_of_block (a := ⟨w.heap.size, 0, none⟩) e2).trans b.c0, (World.cell?_of_block (a := ⟨w.heap.size, 1, none⟩) e2).trans b.c1⟩)
  obtain ⟨c0, c1⟩ := SB.out W none (World.grownBy.refl _ _) (fun k e => by cases e)
  clear h hN
  have HS := Lib.hid hb0
  clear hb0
  go_enter Tryz.func18, Tryz.ntmps18
  go_wp2_with (first | (go_at_call 19; (with_reducible refine (O1.out _ HB0.out).mono ?_); rintro e w3 ⟨rfl, hg⟩; have HG3 := Lib.hid hg; clear hg c0 c1; obtain ⟨c0, c1⟩ := SB.out _ _ HG3.out SZ.out; clear O1) | (go_at_call 19; have ho : QOwn base (.slice pp p.plus.length cp) p.plus _ := ownsRow_grown (HP.out.below HB0.out) HG3.out (fun k e1 e2 => HA.out k e2.symm e1); (with_reducible refine (O2.out _ ho (Nat.le_trans HS.out (Nat.le_trans HB0.out.size HG3.out.size))).mono ?_); rintro e w4 ⟨rfl, hg⟩; have HG4 := Lib.hid hg; clear hg O2 ho))
  go_end0
  refine ⟨rfl, ⟨HG4.out.os.trans (HG3.out.os.trans HB0.out.os), HG4.out.tape.trans (HG3.out.tape.trans HB0.out.tape), HG4.out.output.trans (HG3.out.output.trans HB0.out.output), Nat.le_trans HB0.out.size (Nat.le_trans HG3.out.size HG4.out.size), fun k hk h1 h2 => ?_⟩⟩
  have s1 := HB0.out.size
  have s2 := HG3.out.size
  exact (HG4.out.block k (by omega) (fun e => h2 e.symm)).trans ((HG3.out.block k (by omega) (fun e => h1 e.symm)).trans (HB0.out.block k hk))
end Go.Proofs.YthipcepgbegaiaaGreatDoor
