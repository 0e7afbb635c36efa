/-
  What this law wants beyond another claim's texts. By an AI agent.
-/
import Derived.Test.YthipcepgbegaiaaGreatDoorZTerm0
import Derived.Test.YthipcepgbegaiaaGreatDoorZGPlain
import Derived.Test.YthipcepgbegaiaaGreatDoorZPatch0
import Derived.Test.YthipcepgbegaiaaGreatDoorZPatchW2
import Derived.Test.YthipcepgbegaiaaGreatDoorZRef23W1
import Derived.Test.YthipcepgbegaiaaGreatDoorZRefQuadW
import Derived.Test.YthipcepgbegaiaaGreatDoorZRefUnion
import Derived.Test.YthipcepgbegaiaaGreatDoorZInvert
import Derived.Test.YthipcepgbegaiaaGreatDoorZSets2
import Derived.Test.YthipcepgbegaiaaGreatDoorZLaw23
namespace Go.Proofs.YthipcepgbegaiaaGreatDoor
open Go.RowKit
set_option maxRecDepth 100000

theorem badF_ok : ∀ (l : List QuadL) (i : Nat), (badF l i).2 = 0 ↔ ∀ q ∈ l, quadN q = 0
  | [], i => by simp [badF]
  | q :: r, i => by
    rw [badF]
    by_cases h : quadN q = 0
    · rw [if_neg (fun x => x h), badF_ok r]
      simp [h]
    · rw [if_pos h]
      simp [h]
theorem fallF_ok : ∀ (l : List QuadL) (i : Nat), (fallF l i).2 = 0 ↔ riseB l = true
  | [], i => by simp [fallF, riseB]
  | [a], i => by simp [fallF, riseB]
  | a :: b :: r, i => by
    rw [fallF, riseB]
    by_cases h : 0 ≤ cmpQ a b
    · rw [if_pos h, decide_eq_false (by omega)]
      simp
    · rw [if_neg h, decide_eq_true (by omega), Bool.true_and]
      exact fallF_ok (b :: r) _
theorem validF_ok (l : List QuadL) : (validF l).2 = 0 ↔ Fine l := by
  unfold validF Fine
  by_cases h : 1048576 < l.length
  · rw [if_pos h]
    exact ⟨(fun h => by cases h), (fun h => by omega)⟩
  rw [if_neg h, ← badF_ok l 0, ← riseB_iff]
  by_cases h2 : (badF l 0).2 = 0
  · rw [if_neg (fun x => x h2), fallF_ok]
    exact ⟨fun x => ⟨by omega, h2, x⟩, fun x => x.2.2⟩
  · rw [if_pos h2]
    exact ⟨fun x => absurd x h2, fun x => absurd x.2.1 h2⟩
end Go.Proofs.YthipcepgbegaiaaGreatDoor

namespace Go.Proofs.YthipcepgbegaiaaGreatDoor
set_option maxRecDepth 100000

section
variable {a b : List QuadL} (ha : Rise a) (hb : Rise b)
include ha hb
theorem mem_meet (x : QuadL) : x ∈ meetS a b ↔ x ∈ a ∧ x ∈ b := by
  unfold meetS
  rw [both_rise ha hb, if_pos rfl, mergeF_mem _ _ _ _ a b (Nat.le_refl _) ha hb]
  simp
end
theorem rise_nil : Rise [] := List.Pairwise.nil
theorem minus_nil {a : List QuadL} (ha : Rise a) : minusS a [] = a := rise_ext (minus_rise ha rise_nil) ha (fun x => by rw [mem_minus ha rise_nil]; simp)
theorem empty_of {l : List QuadL} (h : ∀ x, x ∉ l) : l = [] := List.eq_nil_iff_forall_not_mem.2 h
def invertN (p : PatchL) : PatchL × Int := if checkN p ≠ 0 then (noPatch, checkN p) else (⟨p.plus, p.minus⟩, 0)
def composeN (p q : PatchL) : PatchL × Int :=
  if firstN (checkN p) (checkN q) ≠ 0 then (noPatch, firstN (checkN p) (checkN q))
  else if ¬ (meetS p.minus q.minus = [] ∧ meetS p.plus q.plus = []) then (noPatch, 230)
  else if 1048576 < (unionS (minusS p.minus q.plus) (minusS q.minus p.plus)).length ∨ 1048576 < (unionS (minusS p.plus q.minus) (minusS q.plus p.minus)).length then (noPatch, 2)
  else (⟨unionS (minusS p.minus q.plus) (minusS q.minus p.plus), unionS (minusS p.plus q.minus) (minusS q.plus p.minus)⟩, 0)
def overN (p q : PatchL) : PatchL × Int :=
  if firstN (checkN p) (checkN q) ≠ 0 then (noPatch, firstN (checkN p) (checkN q))
  else if ¬ (meetS p.minus q.plus = [] ∧ meetS p.plus q.minus = []) then (noPatch, 230)
  else (⟨minusS p.minus q.minus, minusS p.plus q.plus⟩, 0)

def FineP (p : PatchL) : Prop := Fine p.minus ∧ Fine p.plus ∧ ∀ x, x ∈ p.minus → x ∉ p.plus
theorem firstN_zero {a b : Int} : firstN a b = 0 ↔ a = 0 ∧ b = 0 := by
  unfold firstN
  by_cases h : a = 0
  · simp [h]
  · simp [h]
theorem checkN_ok (p : PatchL) : checkN p = 0 ↔ FineP p := by
  unfold checkN FineP
  rw [firstN_zero, firstN_zero, validF_ok, validF_ok]
  constructor
  · rintro ⟨⟨h1, h2⟩, h3⟩
    refine ⟨h1, h2, fun x hx hy => ?_⟩
    by_cases h : meetS p.minus p.plus = []
    · have := (mem_meet h1.rise h2.rise x).2 ⟨hx, hy⟩
      rw [h] at this
      cases this
    · rw [if_neg h] at h3
      cases h3
  · rintro ⟨h1, h2, h3⟩
    refine ⟨⟨h1, h2⟩, ?_⟩
    rw [if_pos]
    exact empty_of fun x hx => h3 x ((mem_meet h1.rise h2.rise x).1 hx).1 ((mem_meet h1.rise h2.rise x).1 hx).2
section
variable {a b c : List QuadL} (ha : Fine a) (hb : Fine b) (hc : Fine c)
include ha hb hc
end
end Go.Proofs.YthipcepgbegaiaaGreatDoor

namespace Go.Proofs.YthipcepgbegaiaaGreatDoor
open Go.RowKit
set_option maxRecDepth 100000

theorem held_3 {w w' : World} {x y z u r0 r1 : Value} {T : TypeId} (h : Below (((w.alloc (.cells #[x, y] T)).alloc (.cells #[z, u] T)).alloc (.cells #[r0, r1] T)).heap.size (((w.alloc (.cells #[x, y] T)).alloc (.cells #[z, u] T)).alloc (.cells #[r0, r1] T)) w') :
    Box2 w w.heap.size x y w' ∧ Box2 w (w.heap.size + 1) z u w' ∧ Box2 w (w.heap.size + 1 + 1) r0 r1 w' := by
  have e1 : (w.alloc (.cells #[x, y] T)).heap.size = w.heap.size + 1 := by simp
  have e2 : ((w.alloc (.cells #[x, y] T)).alloc (.cells #[z, u] T)).heap.size = w.heap.size + 1 + 1 := by simp
  have b3 : Box2 w (w.heap.size + 1 + 1) r0 r1 (((w.alloc (.cells #[x, y] T)).alloc (.cells #[z, u] T)).alloc (.cells #[r0, r1] T)) := by
    have := Box2.mk0 (w := (w.alloc (.cells #[x, y] T)).alloc (.cells #[z, u] T)) (x := r0) (y := r1) (T := T)
    rw [e2] at this
    exact ⟨this.c0, this.c1, this.f0, this.f1, this.lt⟩
  have b2 : Box2 w (w.heap.size + 1) z u ((w.alloc (.cells #[x, y] T)).alloc (.cells #[z, u] T)) := by
    have := Box2.mk0 (w := w.alloc (.cells #[x, y] T)) (x := z) (y := u) (T := T)
    rw [e1] at this
    exact ⟨this.c0, this.c1, this.f0, this.f1, this.lt⟩
  have b1 : Box2 w w.heap.size x y (w.alloc (.cells #[x, y] T)) := Box2.mk0
  have s1 : Below (w.alloc (.cells #[x, y] T)).heap.size (w.alloc (.cells #[x, y] T)) ((w.alloc (.cells #[x, y] T)).alloc (.cells #[z, u] T)) := (Below.refl _ _).alloc (Nat.le_refl _) _
  have s2 : Below ((w.alloc (.cells #[x, y] T)).alloc (.cells #[z, u] T)).heap.size ((w.alloc (.cells #[x, y] T)).alloc (.cells #[z, u] T)) (((w.alloc (.cells #[x, y] T)).alloc (.cells #[z, u] T)).alloc (.cells #[r0, r1] T)) := (Below.refl _ _).alloc (Nat.le_refl _) _
  exact ⟨((b1.later s1).later s2).later h, (b2.later s2).later h, b3.later h⟩
theorem four_set {w u : World} {x y z t v : Value} {k : Nat} (h : u.cell? ⟨w.heap.size, 0, none⟩ = some x ∧ u.cell? ⟨w.heap.size, 1, none⟩ = some y ∧ u.cell? ⟨w.heap.size + 1, 0, none⟩ = some z ∧ u.cell? ⟨w.heap.size + 1, 1, none⟩ = some t) :
    (u.setCell ⟨w.heap.size + 1 + 1, k, none⟩ v).cell? ⟨w.heap.size, 0, none⟩ = some x ∧ (u.setCell ⟨w.heap.size + 1 + 1, k, none⟩ v).cell? ⟨w.heap.size, 1, none⟩ = some y ∧ (u.setCell ⟨w.heap.size + 1 + 1, k, none⟩ v).cell? ⟨w.heap.size + 1, 0, none⟩ = some z ∧ (u.setCell ⟨w.heap.size + 1 + 1, k, none⟩ v).cell? ⟨w.heap.size + 1, 1, none⟩ = some t := by
  refine ⟨?_, ?_, ?_, ?_⟩
  · rw [World.cell?_setCell_other _ _ _ _ (by simp)]; exact h.1
  · rw [World.cell?_setCell_other _ _ _ _ (by simp)]; exact h.2.1
  · rw [World.cell?_setCell_other _ _ _ _ (by simp)]; exact h.2.2.1
  · rw [World.cell?_setCell_other _ _ _ _ (by simp)]; exact h.2.2.2
theorem two_set {w : World} {b1 g : Nat} {v x y : Value} {l : List QuadL} (h : QOwn b1 v l w) (hg : v.ownBlock ≠ some g) : QOwn b1 v l ((w.setCell ⟨g, 0, none⟩ x).setCell ⟨g, 1, none⟩ y) := ownsRow_set (ownsRow_set h _ _ hg) _ _ hg
theorem le_alloc {n : Nat} {u w3 : World} {o : Obj} (h : n ≤ u.heap.size) (_ : Below (u.alloc o).heap.size (u.alloc o) w3) : n ≤ (u.alloc o).heap.size := by simp; omega
theorem le_alloc_d {n : Nat} {u w3 : World} {o : Obj} (h : n ≤ u.heap.size) (_ : Below (u.alloc o).drew.heap.size (u.alloc o).drew w3) : n ≤ (u.alloc o).drew.heap.size := by simp; omega
/-- a row of quads is no box of a patch -/
theorem own_type {w : World} {b1 : Nat} {v : Value} {l : List QuadL} {g : Nat} {cs : Array Value} {fr : Nat × Nat} (h : QOwn b1 v l w) (hb : w.heap[g]? = some (.cells cs 24 fr)) : v.ownBlock ≠ some g := by
  intro e
  rcases h.2 with ⟨rfl, _⟩ | ⟨g', cap, cur, rfl, h1, h2, _⟩
  · simp [Value.ownBlock] at e
  · simp [Value.ownBlock] at e
    subst e
    rw [hb] at h2
    simp at h2
/-- Compose's last stores -/
theorem compose_fin {w W w13 : World} {g gb : Nat} {a b : List QuadL} {mv pv x y : Value} {cs : Array Value} {fr : Nat × Nat} (hW : Below w.heap.size w W) (hg : w.heap.size ≤ g) (hgW : g < W.heap.size) (hm : QOwn W.heap.size mv a w13) (hp : QOwn W.heap.size pv b w13) (ap : Apart mv pv)
    (hb : w13.heap[gb]? = some (.cells cs 24 fr)) (hgb : W.heap.size ≤ gb) (bw : Below W.heap.size W w13) :
    PFresh w.heap.size mv pv ⟨a, b⟩ ((((w13.setCell ⟨gb, 0, none⟩ x).setCell ⟨gb, 1, none⟩ y).setCell ⟨g, 0, none⟩ mv).setCell ⟨g, 1, none⟩ pv) ∧ Below w.heap.size w ((((w13.setCell ⟨gb, 0, none⟩ x).setCell ⟨gb, 1, none⟩ y).setCell ⟨g, 0, none⟩ mv).setCell ⟨g, 1, none⟩ pv) := by
  have s0 := hW.size
  refine ⟨⟨(two_set (two_set hm (own_type hm hb)) (fun e => by have := own_base hm _ e; omega)).less s0, (two_set (two_set hp (own_type hp hb)) (fun e => by have := own_base hp _ e; omega)).less s0, ap⟩, ?_⟩
  have h0 : w.heap.size ≤ gb := by omega
  exact ((((hW.trans (bw.mono s0)).setCell (p := ⟨gb, 0, none⟩) h0 _).setCell (p := ⟨gb, 1, none⟩) h0 _).setCell (p := ⟨g, 0, none⟩) hg _).setCell (p := ⟨g, 1, none⟩) hg _
theorem compose_fin2 {w W w13 : World} {g : Nat} {a b : List QuadL} {mv pv : Value} {o : Obj} (hW : Below w.heap.size w W) (hg : w.heap.size ≤ g) (hgW : g < W.heap.size) (hm : QOwn W.heap.size mv a w13) (hp : QOwn W.heap.size pv b w13) (ap : Apart mv pv) (bw : Below W.heap.size W w13) :
    PFresh w.heap.size mv pv ⟨a, b⟩ (((w13.alloc o).setCell ⟨g, 0, none⟩ mv).setCell ⟨g, 1, none⟩ pv) ∧ Below w.heap.size w (((w13.alloc o).setCell ⟨g, 0, none⟩ mv).setCell ⟨g, 1, none⟩ pv) := by
  have s0 := hW.size
  have ha : Below w13.heap.size w13 (w13.alloc o) := (Below.refl _ _).alloc (Nat.le_refl _) _
  refine ⟨⟨(two_set (hm.below ha) (fun e => by have := own_base hm _ e; omega)).less s0, (two_set (hp.below ha) (fun e => by have := own_base hp _ e; omega)).less s0, ap⟩, ?_⟩
  exact (((hW.trans (bw.mono s0)).alloc (Nat.le_trans s0 bw.size) _).setCell (p := ⟨g, 0, none⟩) hg _).setCell (p := ⟨g, 1, none⟩) hg _
/-- what a call that has stored two lists of its own in its result's cells leaves -/
theorem patch_fin3 {w u4 w4 u5 w5 w6 : World} {g : Nat} {a b : List QuadL} {mv pv : Value} (hg : w.heap.size ≤ g) (hm : QOwn u4.heap.size mv a w4) (hu4 : g < u4.heap.size) (b45 : Below w4.heap.size w4 u5) (hp : QOwn u5.heap.size pv b w5) (b5 : Below u5.heap.size u5 w5) (b56 : Below w5.heap.size w5 w6) (b6 : Below w.heap.size w w6) (hu : w.heap.size ≤ u4.heap.size) (h4 : u4.heap.size ≤ w4.heap.size) :
    PFresh w.heap.size mv pv ⟨a, b⟩ ((w6.setCell ⟨g, 0, none⟩ mv).setCell ⟨g, 1, none⟩ pv) ∧ Below w.heap.size w ((w6.setCell ⟨g, 0, none⟩ mv).setCell ⟨g, 1, none⟩ pv) := by
  have h45 := b45.size
  have h55 := b5.size
  have m6 : QOwn u4.heap.size mv a w6 := ((hm.below b45).below b5).below b56
  have p6 : QOwn u5.heap.size pv b w6 := hp.below b56
  refine ⟨⟨((m6.set ⟨g, 0, none⟩ mv hu4).set ⟨g, 1, none⟩ pv hu4).less hu, ((p6.set ⟨g, 0, none⟩ mv (by simp only; omega)).set ⟨g, 1, none⟩ pv (by simp only; omega)).less (by omega), hm.apart hp h45⟩, ?_⟩
  exact (b6.setCell (p := ⟨g, 0, none⟩) hg _).setCell (p := ⟨g, 1, none⟩) hg _

set_option maxHeartbeats 4000000 in
theorem patchOver_l (O : SetOK) (p q : PatchL) (mv pv mv2 pv2 : Value) (w : World) (hT : TabAt w) (hM : MaxAt w) (h : PView w mv pv p) (h2 : PView w mv2 pv2 q) (hN : NeatP p) (hN2 : NeatP q) :
    Calls Tryz.prog 26 #[.agg #[mv, pv], .agg #[mv2, pv2]] w fun e w' => ∃ rm rp, e = .returned (.tuple #[.agg #[rm, rp], .int .i64 (overN p q).2]) ∧ PFresh w.heap.size rm rp (overN p q).1 w' ∧ Below w.heap.size w w' := by
  have CP := Lib.hid (fun (u : World) (hb : Below w.heap.size w u) => patchCheck_l O p mv pv u (hT.below hb) (hM.below hb) (h.below hb) hN)
  have CQ := Lib.hid (fun (u : World) (hb : Below w.heap.size w u) => patchCheck_l O q mv2 pv2 u (hT.below hb) (hM.below hb) (h2.below hb) hN2)
  have ME1 := Lib.hid (fun (u : World) (hb : Below w.heap.size w u) => O.meet p.minus q.plus mv pv2 u (h.1.below hb) (h2.2.below hb) (by have := hN.1.1; omega) (by have := hN2.2.1; omega))
  have ME2 := Lib.hid (fun (u : World) (hb : Below w.heap.size w u) => O.meet p.plus q.minus pv mv2 u (h.2.below hb) (h2.1.below hb) (by have := hN.2.1; omega) (by have := hN2.1.1; omega))
  have M1 := Lib.hid (fun (u : World) (hb : Below w.heap.size w u) => O.minus p.minus q.minus mv mv2 u (h.1.below hb) (h2.1.below hb) (by have := hN.1.1; omega) (by have := hN2.1.1; omega))
  have M2 := Lib.hid (fun (u : World) (hb : Below w.heap.size w u) => O.minus p.plus q.plus pv pv2 u (h.2.below hb) (h2.2.below hb) (by have := hN.2.1; omega) (by have := hN2.2.1; omega))
  have OR := Lib.hid (fun (g : Nat) (u : World) => orErr_l (checkN p) (checkN q) g u)
  have HD : Hid (overN p q = if firstN (checkN p) (checkN q) ≠ 0 then (noPatch, firstN (checkN p) (checkN q)) else if ¬ (meetS p.minus q.plus = [] ∧ meetS p.plus q.minus = []) then (noPatch, 230) else (⟨minusS p.minus q.minus, minusS p.plus q.plus⟩, 0)) := Lib.hid rfl
  obtain ⟨pm, cm, rfl⟩ := h.1.form
  obtain ⟨pp, cp, rfl⟩ := h.2.form
  obtain ⟨qm, dm, rfl⟩ := h2.1.form
  obtain ⟨qp, dp, rfl⟩ := h2.2.form
  have HB0 : Hid (Below w.heap.size w (((w.alloc (.cells #[.slice pm p.minus.length cm, .slice pp p.plus.length cp] 24)).alloc (.cells #[.slice qm q.minus.length dm, .slice qp q.plus.length dp] 24)).alloc (.cells #[.slice none 0 0, .slice none 0 0] 24))) := Lib.hid ((((Below.refl _ _).alloc (Nat.le_refl _) _).alloc (by simp) _).alloc (by simp; omega) _)
  have SB : Hid (∀ w', Below (((w.alloc (.cells #[.slice pm p.minus.length cm, .slice pp p.plus.length cp] 24)).alloc (.cells #[.slice qm q.minus.length dm, .slice qp q.plus.length dp] 24)).alloc (.cells #[.slice none 0 0, .slice none 0 0] 24)).heap.size (((w.alloc (.cells #[.slice pm p.minus.length cm, .slice pp p.plus.length cp] 24)).alloc (.cells #[.slice qm q.minus.length dm, .slice qp q.plus.length dp] 24)).alloc (.cells #[.slice none 0 0, .slice none 0 0] 24)) w' → w'.cell? ⟨w.heap.size, 0, none⟩ = some (.slice pm p.minus.length cm) ∧ w'.cell? ⟨w.heap.size, 1, none⟩ = some (.slice pp p.plus.length cp) ∧ w'.cell? ⟨w.heap.size + 1, 0, none⟩ = some (.slice qm q.minus.length dm) ∧ w'.cell? ⟨w.heap.size + 1, 1, none⟩ = some (.slice qp q.plus.length dp) ∧ w'.cell? ⟨w.heap.size + 1 + 1, 0, none⟩ = some (.slice none 0 0) ∧ w'.cell? ⟨w.heap.size + 1 + 1, 1, none⟩ = some (.slice none 0 0) ∧ w'.frozen? ⟨w.heap.size + 1 + 1, 0, none⟩ = false ∧ w'.frozen? ⟨w.heap.size + 1 + 1, 1, none⟩ = false) := Lib.hid (fun w' h => by
    obtain ⟨h1, h2, h3⟩ := held_3 h
    exact ⟨h1.c0, h1.c1, h2.c0, h2.c1, h3.c0, h3.c1, h3.f0, h3.f1⟩)
  have HSZ : Hid (w.heap.size + 1 + 1 < (((w.alloc (.cells #[.slice pm p.minus.length cm, .slice pp p.plus.length cp] 24)).alloc (.cells #[.slice qm q.minus.length dm, .slice qp q.plus.length dp] 24)).alloc (.cells #[.slice none 0 0, .slice none 0 0] 24)).heap.size) := Lib.hid (by simp)
  clear hT hM h h2 hN hN2 O
  obtain ⟨n, hn⟩ : ∃ n, firstN (checkN p) (checkN q) = n := ⟨_, rfl⟩
  rw [hn] at HD
  rw [orI_firstN, hn] at OR
  clear hn
  obtain ⟨W, hW⟩ : ∃ W, ((w.alloc (.cells #[.slice pm p.minus.length cm, .slice pp p.plus.length cp] 24)).alloc (.cells #[.slice qm q.minus.length dm, .slice qp q.plus.length dp] 24)).alloc (.cells #[.slice none 0 0, .slice none 0 0] 24) = W := ⟨_, rfl⟩
  rw [hW] at HB0 SB HSZ
  have HB7 : Hid (Below W.heap.size W W.drew) := Lib.hid (below_drewN W 1)
  by_cases n0 : n = 0
  · have q9 : (n != 0) = false := by rw [n0]; rfl
    have HD2 : Hid (overN p q = if ¬ (meetS p.minus q.plus = [] ∧ meetS p.plus q.minus = []) then (noPatch, 230) else (⟨minusS p.minus q.minus, minusS p.plus q.plus⟩, 0)) := Lib.hid (by
      rw [HD.out, if_neg (fun h => h n0)])
    clear HD n0
    by_cases h1 : 0 < (meetS p.minus q.plus).length
    · as_aux_lemma =>
      have HE : Hid (overN p q = (noPatch, 230)) := Lib.hid (by rw [HD2.out, if_pos (fun h => by rw [h.1] at h1; simp at h1)])
      rw [decide_eq_true h1] at ME1
      clear HD2
      go_enter Tryz.func26, Tryz.ntmps26
      go_wp2_with fail
      go_region_held3 (fun w' => w'.cell? ⟨w.heap.size, 0, none⟩ = some (.slice pm p.minus.length cm) ∧ w'.cell? ⟨w.heap.size, 1, none⟩ = some (.slice pp p.plus.length cp) ∧ w'.cell? ⟨w.heap.size + 1, 0, none⟩ = some (.slice qm q.minus.length dm) ∧ w'.cell? ⟨w.heap.size + 1, 1, none⟩ = some (.slice qp q.plus.length dp) ∧ w'.cell? ⟨w.heap.size + 1 + 1, 0, none⟩ = some (.slice none 0 0) ∧ w'.cell? ⟨w.heap.size + 1 + 1, 1, none⟩ = some (.slice none 0 0) ∧ w'.frozen? ⟨w.heap.size + 1 + 1, 0, none⟩ = false ∧ w'.frozen? ⟨w.heap.size + 1 + 1, 1, none⟩ = false) (first | exact SB.out _ HB7.out | exact SB.out _ (HB7.out.alloc HB7.out.size _)) (first | (go_at_call 16; (with_reducible refine (CP.out _ ?hb).mono ?_); (case hb => exact HB0.out.trans (HB7.out.mono HB0.out.size)); rintro e w3 ⟨rfl, hb3⟩; have HB8 := Lib.hid (HB7.out.trans (hb3.mono HB7.out.size)); clear HB7 hb3; have HB7 := HB8; clear HB8) | (go_at_call 16; (with_reducible refine (CQ.out _ ?hb).mono ?_); (case hb => exact HB0.out.trans (HB7.out.mono HB0.out.size)); rintro e w4 ⟨rfl, hb4⟩; have HB8 := Lib.hid (HB7.out.trans (hb4.mono HB7.out.size)); clear HB7 hb4; have HB7 := HB8; clear HB8) | (go_at_call 45; (with_reducible refine (OR.out _ _ ?c0 ?c1).mono ?_); (case c0 => go_simp); (case c1 => go_simp); rintro e w5 ⟨rfl, rfl⟩))
      have HB9 := Lib.hid (HB7.out.alloc HB7.out.size (.cells #[.int .i64 (checkN p), .int .i64 (checkN q)] 27))
      clear HB7
      have HB7 := HB9
      clear HB9
      obtain ⟨c0, c1, c2, c3, c4, c5, f4, f5⟩ := SB.out _ HB7.out
      go_wp2_with (go_at_call 44; (with_reducible refine (ME1.out _ ?hb).mono ?_); (case hb => exact HB0.out.trans (HB7.out.mono HB0.out.size)); rintro e w6 ⟨rfl, hb6⟩; have HB8 := Lib.hid (HB7.out.trans (hb6.mono HB7.out.size)); clear HB7 hb6; have HB7 := HB8; clear HB8; obtain ⟨c0, c1, c2, c3, c4, c5, f4, f5⟩ := SB.out _ HB7.out)
      refine bodyPost_ret (v := .tuple #[.agg #[.slice none 0 0, .slice none 0 0], .int .i64 230]) (by simp [results, Tryz.results26, go_sem, c4, c5]) rfl ?_
      exact ⟨_, _, by rw [HE.out], by rw [HE.out]; exact PFresh.nil _ _, ((HB0.out.trans (HB7.out.mono HB0.out.size)).setCell (p := ⟨w.heap.size + 1 + 1, 0, none⟩) (by simp only; omega) _).setCell (p := ⟨w.heap.size + 1 + 1, 1, none⟩) (by simp only; omega) _⟩
    rw [decide_eq_false h1] at ME1
    by_cases h2 : 0 < (meetS p.plus q.minus).length
    · as_aux_lemma =>
      have HE : Hid (overN p q = (noPatch, 230)) := Lib.hid (by rw [HD2.out, if_pos (fun h => by rw [h.2] at h2; simp at h2)])
      rw [decide_eq_true h2] at ME2
      clear HD2 h1
      go_enter Tryz.func26, Tryz.ntmps26
      go_wp2_with fail
      go_region_held3 (fun w' => w'.cell? ⟨w.heap.size, 0, none⟩ = some (.slice pm p.minus.length cm) ∧ w'.cell? ⟨w.heap.size, 1, none⟩ = some (.slice pp p.plus.length cp) ∧ w'.cell? ⟨w.heap.size + 1, 0, none⟩ = some (.slice qm q.minus.length dm) ∧ w'.cell? ⟨w.heap.size + 1, 1, none⟩ = some (.slice qp q.plus.length dp) ∧ w'.cell? ⟨w.heap.size + 1 + 1, 0, none⟩ = some (.slice none 0 0) ∧ w'.cell? ⟨w.heap.size + 1 + 1, 1, none⟩ = some (.slice none 0 0) ∧ w'.frozen? ⟨w.heap.size + 1 + 1, 0, none⟩ = false ∧ w'.frozen? ⟨w.heap.size + 1 + 1, 1, none⟩ = false) (first | exact SB.out _ HB7.out | exact SB.out _ (HB7.out.alloc HB7.out.size _)) (first | (go_at_call 16; (with_reducible refine (CP.out _ ?hb).mono ?_); (case hb => exact HB0.out.trans (HB7.out.mono HB0.out.size)); rintro e w3 ⟨rfl, hb3⟩; have HB8 := Lib.hid (HB7.out.trans (hb3.mono HB7.out.size)); clear HB7 hb3; have HB7 := HB8; clear HB8) | (go_at_call 16; (with_reducible refine (CQ.out _ ?hb).mono ?_); (case hb => exact HB0.out.trans (HB7.out.mono HB0.out.size)); rintro e w4 ⟨rfl, hb4⟩; have HB8 := Lib.hid (HB7.out.trans (hb4.mono HB7.out.size)); clear HB7 hb4; have HB7 := HB8; clear HB8) | (go_at_call 45; (with_reducible refine (OR.out _ _ ?c0 ?c1).mono ?_); (case c0 => go_simp); (case c1 => go_simp); rintro e w5 ⟨rfl, rfl⟩))
      have HB9 := Lib.hid (HB7.out.alloc HB7.out.size (.cells #[.int .i64 (checkN p), .int .i64 (checkN q)] 27))
      clear HB7
      have HB7 := HB9
      clear HB9
      obtain ⟨c0, c1, c2, c3, c4, c5, f4, f5⟩ := SB.out _ HB7.out
      go_wp2_with (first | (go_at_call 44; (with_reducible refine (ME1.out _ ?hb).mono ?_); (case hb => exact HB0.out.trans (HB7.out.mono HB0.out.size)); rintro e w6 ⟨rfl, hb6⟩; have HB8 := Lib.hid (HB7.out.trans (hb6.mono HB7.out.size)); clear HB7 hb6; have HB7 := HB8; clear HB8; obtain ⟨c0, c1, c2, c3, c4, c5, f4, f5⟩ := SB.out _ HB7.out) | (go_at_call 44; (with_reducible refine (ME2.out _ ?hb).mono ?_); (case hb => exact HB0.out.trans (HB7.out.mono HB0.out.size)); rintro e w7 ⟨rfl, hb7⟩; have HB8 := Lib.hid (HB7.out.trans (hb7.mono HB7.out.size)); clear HB7 hb7; have HB7 := HB8; clear HB8; obtain ⟨c0, c1, c2, c3, c4, c5, f4, f5⟩ := SB.out _ HB7.out))
      refine bodyPost_ret (v := .tuple #[.agg #[.slice none 0 0, .slice none 0 0], .int .i64 230]) (by simp [results, Tryz.results26, go_sem, c4, c5]) rfl ?_
      exact ⟨_, _, by rw [HE.out], by rw [HE.out]; exact PFresh.nil _ _, ((HB0.out.trans (HB7.out.mono HB0.out.size)).setCell (p := ⟨w.heap.size + 1 + 1, 0, none⟩) (by simp only; omega) _).setCell (p := ⟨w.heap.size + 1 + 1, 1, none⟩) (by simp only; omega) _⟩
    rw [decide_eq_false h2] at ME2
    have HE : Hid (overN p q = (⟨minusS p.minus q.minus, minusS p.plus q.plus⟩, 0)) := Lib.hid (by rw [HD2.out, if_neg (fun h => h ⟨List.eq_nil_of_length_eq_zero (by omega), List.eq_nil_of_length_eq_zero (by omega)⟩)])
    clear HD2 h1 h2
    as_aux_lemma =>
      go_enter Tryz.func26, Tryz.ntmps26
      go_wp2_with fail
      go_region_held3 (fun w' => w'.cell? ⟨w.heap.size, 0, none⟩ = some (.slice pm p.minus.length cm) ∧ w'.cell? ⟨w.heap.size, 1, none⟩ = some (.slice pp p.plus.length cp) ∧ w'.cell? ⟨w.heap.size + 1, 0, none⟩ = some (.slice qm q.minus.length dm) ∧ w'.cell? ⟨w.heap.size + 1, 1, none⟩ = some (.slice qp q.plus.length dp) ∧ w'.cell? ⟨w.heap.size + 1 + 1, 0, none⟩ = some (.slice none 0 0) ∧ w'.cell? ⟨w.heap.size + 1 + 1, 1, none⟩ = some (.slice none 0 0) ∧ w'.frozen? ⟨w.heap.size + 1 + 1, 0, none⟩ = false ∧ w'.frozen? ⟨w.heap.size + 1 + 1, 1, none⟩ = false) (first | exact SB.out _ HB7.out | exact SB.out _ (HB7.out.alloc HB7.out.size _)) (first | (go_at_call 16; (with_reducible refine (CP.out _ ?hb).mono ?_); (case hb => exact HB0.out.trans (HB7.out.mono HB0.out.size)); rintro e w3 ⟨rfl, hb3⟩; have HB8 := Lib.hid (HB7.out.trans (hb3.mono HB7.out.size)); clear HB7 hb3; have HB7 := HB8; clear HB8) | (go_at_call 16; (with_reducible refine (CQ.out _ ?hb).mono ?_); (case hb => exact HB0.out.trans (HB7.out.mono HB0.out.size)); rintro e w4 ⟨rfl, hb4⟩; have HB8 := Lib.hid (HB7.out.trans (hb4.mono HB7.out.size)); clear HB7 hb4; have HB7 := HB8; clear HB8) | (go_at_call 45; (with_reducible refine (OR.out _ _ ?c0 ?c1).mono ?_); (case c0 => go_simp); (case c1 => go_simp); rintro e w5 ⟨rfl, rfl⟩))
      have HB9 := Lib.hid (HB7.out.alloc HB7.out.size (.cells #[.int .i64 (checkN p), .int .i64 (checkN q)] 27))
      clear HB7
      have HB7 := HB9
      clear HB9
      obtain ⟨c0, c1, c2, c3, c4, c5, f4, f5⟩ := SB.out _ HB7.out
      have SB4 : Hid (∀ w', Below W.heap.size W w' → w'.cell? ⟨w.heap.size, 0, none⟩ = some (.slice pm p.minus.length cm) ∧ w'.cell? ⟨w.heap.size, 1, none⟩ = some (.slice pp p.plus.length cp) ∧ w'.cell? ⟨w.heap.size + 1, 0, none⟩ = some (.slice qm q.minus.length dm) ∧ w'.cell? ⟨w.heap.size + 1, 1, none⟩ = some (.slice qp q.plus.length dp)) := Lib.hid (fun w' h => by
        obtain ⟨z0, z1, z2, z3, _⟩ := SB.out w' h
        exact ⟨z0, z1, z2, z3⟩)
      go_upto_region 6 with (first | (go_at_call 44; (with_reducible refine (ME1.out _ ?hb).mono ?_); (case hb => exact HB0.out.trans (HB7.out.mono HB0.out.size)); rintro e w6 ⟨rfl, hb6⟩; have HB8 := Lib.hid (HB7.out.trans (hb6.mono HB7.out.size)); clear HB7 hb6; have HB7 := HB8; clear HB8; obtain ⟨c0, c1, c2, c3, c4, c5, f4, f5⟩ := SB.out _ HB7.out) | (go_at_call 44; (with_reducible refine (ME2.out _ ?hb).mono ?_); (case hb => exact HB0.out.trans (HB7.out.mono HB0.out.size)); rintro e w7 ⟨rfl, hb7⟩; have HB8 := Lib.hid (HB7.out.trans (hb7.mono HB7.out.size)); clear HB7 hb7; have HB7 := HB8; clear HB8; obtain ⟨c0, c1, c2, c3, c4, c5, f4, f5⟩ := SB.out _ HB7.out))
      clear c0 c1 c2 c3 c4 c5 f4 f5
      have HB9 := Lib.hid (HB7.out.trans ((below_drewN _ 1).mono HB7.out.size))
      clear HB7
      have HB7 := HB9
      clear HB9
      go_region_held3 (fun w' => w'.cell? ⟨w.heap.size, 0, none⟩ = some (.slice pm p.minus.length cm) ∧ w'.cell? ⟨w.heap.size, 1, none⟩ = some (.slice pp p.plus.length cp) ∧ w'.cell? ⟨w.heap.size + 1, 0, none⟩ = some (.slice qm q.minus.length dm) ∧ w'.cell? ⟨w.heap.size + 1, 1, none⟩ = some (.slice qp q.plus.length dp)) (first | exact SB4.out _ HB7.out | exact four_set (SB4.out _ HB7.out) | exact four_set (four_set (SB4.out _ HB7.out))) (first | (go_at_call 38; (with_reducible refine (M1.out _ ?hb).mono ?_); (case hb => exact HB0.out.trans (HB7.out.mono HB0.out.size)); rintro e w8 ⟨vv, rfl, ho, hb8⟩; obtain ⟨qa8, qc8, rfl⟩ := ho.view.form; have HO8 := Lib.hid ho; have HX8 := Lib.hid hb8; have HP8 := HB7; have HB8 := Lib.hid (HB7.out.trans (hb8.mono HB7.out.size)); clear HB7 ho hb8; have HB7 := HB8; clear HB8) | (go_at_call 38; (with_reducible refine (M2.out _ ?hb).mono ?_); (case hb => exact HB0.out.trans (HB7.out.mono HB0.out.size)); rintro e w9 ⟨vv, rfl, ho, hb9⟩; obtain ⟨qa9, qc9, rfl⟩ := ho.view.form; have HO9 := Lib.hid ho; have HX9 := Lib.hid hb9; have HP9 := HB7; have HB8 := Lib.hid (HB7.out.trans (hb9.mono HB7.out.size)); clear HB7 ho hb9; have HB7 := HB8; clear HB8; obtain ⟨_, _, _, _, c4, c5, f4, f5⟩ := SB.out _ HB7.out))
      go_wp2_with fail
      refine bodyPost_ret (v := .tuple #[.agg #[.slice qa8 (minusS p.minus q.minus).length qc8, .slice qa9 (minusS p.plus q.plus).length qc9], .int .i64 0]) (by simp [results, Tryz.results26, go_sem, c4, c5]) rfl ?_
      have sz := Nat.lt_of_lt_of_le HSZ.out HP8.out.size
      obtain ⟨x1, x2⟩ := patch_fin3 (w := w) (g := w.heap.size + 1 + 1) (by omega) HO8.out sz (Below.refl _ _) HO9.out HX9.out (Below.refl _ _) (HB0.out.trans (HB7.out.mono HB0.out.size)) (Nat.le_trans (by omega) (Nat.le_of_lt sz)) HX8.out.size
      exact ⟨_, _, by rw [HE.out], by rw [HE.out]; exact x1, x2⟩
  · as_aux_lemma =>
    have q9 : (n != 0) = true := by rw [bne, kne n0]; rfl
    have HE : Hid (overN p q = (noPatch, n)) := Lib.hid (by rw [HD.out, if_pos n0])
    clear HD n0
    go_enter Tryz.func26, Tryz.ntmps26
    go_wp2_with fail
    go_region_held3 (fun w' => w'.cell? ⟨w.heap.size, 0, none⟩ = some (.slice pm p.minus.length cm) ∧ w'.cell? ⟨w.heap.size, 1, none⟩ = some (.slice pp p.plus.length cp) ∧ w'.cell? ⟨w.heap.size + 1, 0, none⟩ = some (.slice qm q.minus.length dm) ∧ w'.cell? ⟨w.heap.size + 1, 1, none⟩ = some (.slice qp q.plus.length dp) ∧ w'.cell? ⟨w.heap.size + 1 + 1, 0, none⟩ = some (.slice none 0 0) ∧ w'.cell? ⟨w.heap.size + 1 + 1, 1, none⟩ = some (.slice none 0 0) ∧ w'.frozen? ⟨w.heap.size + 1 + 1, 0, none⟩ = false ∧ w'.frozen? ⟨w.heap.size + 1 + 1, 1, none⟩ = false) (first | exact SB.out _ HB7.out | exact SB.out _ (HB7.out.alloc HB7.out.size _)) (first | (go_at_call 16; (with_reducible refine (CP.out _ ?hb).mono ?_); (case hb => exact HB0.out.trans (HB7.out.mono HB0.out.size)); rintro e w3 ⟨rfl, hb3⟩; have HB8 := Lib.hid (HB7.out.trans (hb3.mono HB7.out.size)); clear HB7 hb3; have HB7 := HB8; clear HB8) | (go_at_call 16; (with_reducible refine (CQ.out _ ?hb).mono ?_); (case hb => exact HB0.out.trans (HB7.out.mono HB0.out.size)); rintro e w4 ⟨rfl, hb4⟩; have HB8 := Lib.hid (HB7.out.trans (hb4.mono HB7.out.size)); clear HB7 hb4; have HB7 := HB8; clear HB8) | (go_at_call 45; (with_reducible refine (OR.out _ _ ?c0 ?c1).mono ?_); (case c0 => go_simp); (case c1 => go_simp); rintro e w5 ⟨rfl, rfl⟩))
    have HB9 := Lib.hid (HB7.out.alloc HB7.out.size (.cells #[.int .i64 (checkN p), .int .i64 (checkN q)] 27))
    clear HB7
    have HB7 := HB9
    clear HB9
    obtain ⟨c0, c1, c2, c3, c4, c5, f4, f5⟩ := SB.out _ HB7.out
    go_wp2_with fail
    refine bodyPost_ret (v := .tuple #[.agg #[.slice none 0 0, .slice none 0 0], .int .i64 n]) (by simp [results, Tryz.results26, go_sem, c4, c5]) rfl ?_
    exact ⟨_, _, by rw [HE.out], by rw [HE.out]; exact PFresh.nil _ _, ((HB0.out.trans (HB7.out.mono HB0.out.size)).setCell (p := ⟨w.heap.size + 1 + 1, 0, none⟩) (by simp only; omega) _).setCell (p := ⟨w.heap.size + 1 + 1, 1, none⟩) (by simp only; omega) _⟩

end Go.Proofs.YthipcepgbegaiaaGreatDoor

namespace Go.Proofs.YthipcepgbegaiaaGreatDoor
open Go.RowKit
set_option maxRecDepth 100000

set_option maxHeartbeats 2000000 in
theorem ref23Two_l (p q : PatchL) (mv pv mv2 pv2 : Value) (w : World) (h : PView w mv pv p) (h2 : PView w mv2 pv2 q) (hN : NeatP p) (hN2 : NeatP q) :
    Calls Tryz.prog 47 #[.agg #[mv, pv], .agg #[mv2, pv2]] w fun e w' => e = .returned (.int .i64 (firstN (checkN p) (checkN q))) ∧ Below w.heap.size w w' := by
  have V1 := Lib.hid (fun (u : World) (hb : Below w.heap.size w u) => ref23Check_l p mv pv u (h.below hb) hN)
  have V2 := Lib.hid (fun (u : World) (hb : Below w.heap.size w u) => ref23Check_l q mv2 pv2 u (h2.below hb) hN2)
  obtain ⟨pm, cm, rfl⟩ := h.1.form
  obtain ⟨pp, cp, rfl⟩ := h.2.form
  obtain ⟨qm, dm, rfl⟩ := h2.1.form
  obtain ⟨qp, dp, rfl⟩ := h2.2.form
  obtain ⟨W, hW⟩ : ∃ W, (w.alloc (.cells #[.slice pm p.minus.length cm, .slice pp p.plus.length cp] 24)).alloc (.cells #[.slice qm q.minus.length dm, .slice qp q.plus.length dp] 24) = W := ⟨_, rfl⟩
  have HB0 : Hid (Below w.heap.size w W) := Lib.hid (by rw [← hW]; exact ((Below.refl _ _).alloc (Nat.le_refl _) _).alloc (by simp) _)
  have HB7 : Hid (Below W.heap.size W W) := Lib.hid (Below.refl _ _)
  have SB : Hid (∀ w', Below W.heap.size W w' → w'.cell? ⟨w.heap.size, 0, none⟩ = some (.slice pm p.minus.length cm) ∧ w'.cell? ⟨w.heap.size, 1, none⟩ = some (.slice pp p.plus.length cp) ∧ w'.cell? ⟨w.heap.size + 1, 0, none⟩ = some (.slice qm q.minus.length dm) ∧ w'.cell? ⟨w.heap.size + 1, 1, none⟩ = some (.slice qp q.plus.length dp)) := Lib.hid (fun w' hb => by
    rw [← hW] at hb
    obtain ⟨e1, e2⟩ := held2 rfl hb
    exact ⟨e1 0 _ rfl, e1 1 _ rfl, e2 0 _ rfl, e2 1 _ rfl⟩)
  obtain ⟨c0, c1, c2, c3⟩ := SB.out _ HB7.out
  clear h h2 hN hN2
  obtain ⟨n1, h1⟩ : ∃ n, checkN p = n := ⟨_, rfl⟩
  rw [h1] at V1 ⊢
  obtain ⟨n2, h2⟩ : ∃ n, checkN q = n := ⟨_, rfl⟩
  rw [h2] at V2 ⊢
  clear h1 h2
  by_cases e1 : n1 = 0
  case neg =>
    as_aux_lemma =>
    have q1 := (kneR e1).1
    have HE : Hid (firstN n1 n2 = n1) := Lib.hid (by unfold firstN; rw [if_pos e1])
    clear e1
    go_enter Tryz.func47, Tryz.ntmps47
    go_wp2_with (go_at_call 17; (with_reducible refine (V1.out _ ?hb).mono ?_); (case hb => exact HB0.out.trans (HB7.out.mono HB0.out.size)); rintro e w3 ⟨rfl, hb3⟩; have HB8 := Lib.hid (HB7.out.trans (hb3.mono HB7.out.size)); clear HB7 hb3; have HB7 := HB8; clear HB8)
    go_ret
    exact ⟨ret_i64 HE.out.symm, HB0.out.trans (HB7.out.mono HB0.out.size)⟩
  case pos =>
    as_aux_lemma =>
    subst e1
    have HE : Hid (firstN 0 n2 = n2) := Lib.hid (by unfold firstN; rw [if_neg (fun h => h rfl)])
    go_enter Tryz.func47, Tryz.ntmps47
    go_wp2_with (first | (go_at_call 17; (with_reducible refine (V1.out _ ?hb).mono ?_); (case hb => exact HB0.out.trans (HB7.out.mono HB0.out.size)); rintro e w3 ⟨rfl, hb3⟩; have HB8 := Lib.hid (HB7.out.trans (hb3.mono HB7.out.size)); clear HB7 hb3; have HB7 := HB8; clear HB8; obtain ⟨c0, c1, c2, c3⟩ := SB.out _ HB7.out; clear V1) | (go_at_call 17; (with_reducible refine (V2.out _ ?hb).mono ?_); (case hb => exact HB0.out.trans (HB7.out.mono HB0.out.size)); rintro e w4 ⟨rfl, hb4⟩; have HB8 := Lib.hid (HB7.out.trans (hb4.mono HB7.out.size)); clear HB7 hb4; have HB7 := HB8; clear HB8))
    go_ret
    exact ⟨ret_i64 HE.out.symm, HB0.out.trans (HB7.out.mono HB0.out.size)⟩
set_option maxHeartbeats 2000000 in
theorem ref23Invert_l (p : PatchL) (mv pv : Value) (w : World) (h : PView w mv pv p) (hN : NeatP p) :
    Calls Tryz.prog 23 #[.agg #[mv, pv]] w fun e w' => ∃ rm rp, e = .returned (.tuple #[.agg #[rm, rp], .int .i64 (invertN p).2]) ∧ PView w' rm rp (invertN p).1 ∧ Below w.heap.size w w' := by
  have V1 := Lib.hid (fun (u : World) (hb : Below w.heap.size w u) => ref23Check_l p mv pv u (h.below hb) hN)
  have HD : Hid (invertN p = if checkN p ≠ 0 then (noPatch, checkN p) else (⟨p.plus, p.minus⟩, 0)) := Lib.hid rfl
  have HV := Lib.hid (fun (u : World) (hb : Below w.heap.size w u) => h.below hb)
  obtain ⟨pm, cm, rfl⟩ := h.1.form
  obtain ⟨pp, cp, rfl⟩ := h.2.form
  obtain ⟨W, hW⟩ : ∃ W, (w.alloc (.cells #[.slice pm p.minus.length cm, .slice pp p.plus.length cp] 24)).alloc (.cells #[.slice none 0 0, .slice none 0 0] 24) = W := ⟨_, rfl⟩
  have HB0 : Hid (Below w.heap.size w W) := Lib.hid (by rw [← hW]; exact ((Below.refl _ _).alloc (Nat.le_refl _) _).alloc (by simp) _)
  have HB7 : Hid (Below W.heap.size W W) := Lib.hid (Below.refl _ _)
  have SB : Hid (∀ w', Below W.heap.size W w' → Box2 w w.heap.size (.slice pm p.minus.length cm) (.slice pp p.plus.length cp) w' ∧ Box2 w (w.heap.size + 1) (.slice none 0 0) (.slice none 0 0) w') := Lib.hid (fun w' hb => by
    rw [← hW] at hb
    exact held_2 hb)
  obtain ⟨bx, by_⟩ := SB.out _ HB7.out
  have c0 := bx.c0
  have c1 := bx.c1
  clear bx by_ h hN
  obtain ⟨n, hn⟩ : ∃ n, checkN p = n := ⟨_, rfl⟩
  rw [hn] at V1 HD
  clear hn
  by_cases e1 : n = 0
  case neg =>
    as_aux_lemma =>
    have q1 := (kneR e1).2
    have HE : Hid (invertN p = (noPatch, n)) := Lib.hid (by rw [HD.out, if_pos (c := n ≠ 0) e1])
    clear HD e1
    go_enter Tryz.func23, Tryz.ntmps23
    go_wp2_with (go_at_call 17; (with_reducible refine (V1.out _ ?hb).mono ?_); (case hb => exact HB0.out.trans (HB7.out.mono HB0.out.size)); rintro e w3 ⟨rfl, hb3⟩; have HB8 := Lib.hid (HB7.out.trans (hb3.mono HB7.out.size)); clear HB7 hb3; have HB7 := HB8; clear HB8; obtain ⟨bx, by_⟩ := SB.out _ HB7.out; clear c0 c1; have c0 := bx.c0; have c1 := bx.c1; have d0 := by_.c0; have d1 := by_.c1; have g0 := by_.f0; have g1 := by_.f1; clear bx by_)
    refine bodyPost_ret (v := .tuple #[.agg #[.slice none 0 0, .slice none 0 0], .int .i64 n]) (by simp [results, Tryz.results23, go_sem, d0, d1]) rfl ?_
    exact ⟨_, _, by rw [HE.out], by rw [HE.out]; exact (PFresh.nil 0 _).view, ((HB0.out.trans (HB7.out.mono HB0.out.size)).setCell (p := ⟨w.heap.size + 1, 0, none⟩) (by simp only; omega) _).setCell (p := ⟨w.heap.size + 1, 1, none⟩) (by simp only; omega) _⟩
  subst e1
  as_aux_lemma =>
    have HE : Hid (invertN p = (⟨p.plus, p.minus⟩, 0)) := Lib.hid (by rw [HD.out]; rfl)
    clear HD
    go_enter Tryz.func23, Tryz.ntmps23
    go_wp2_with (go_at_call 17; (with_reducible refine (V1.out _ ?hb).mono ?_); (case hb => exact HB0.out.trans (HB7.out.mono HB0.out.size)); rintro e w3 ⟨rfl, hb3⟩; have HB8 := Lib.hid (HB7.out.trans (hb3.mono HB7.out.size)); clear HB7 hb3; have HB7 := HB8; clear HB8; obtain ⟨bx, by_⟩ := SB.out _ HB7.out; clear c0 c1; have c0 := bx.c0; have c1 := bx.c1; have d0 := by_.c0; have d1 := by_.c1; have g0 := by_.f0; have g1 := by_.f1; clear bx by_)
    refine bodyPost_ret (v := .tuple #[.agg #[.slice pp p.plus.length cp, .slice pm p.minus.length cm], .int .i64 0]) (by simp [results, Tryz.results23, go_sem, d0, d1]) rfl ?_
    have HZ := ((HB0.out.trans (HB7.out.mono HB0.out.size)).setCell (p := ⟨w.heap.size + 1, 0, none⟩) (by simp only; omega) (.slice pp p.plus.length cp)).setCell (p := ⟨w.heap.size + 1, 1, none⟩) (by simp only; omega) (.slice pm p.minus.length cm)
    exact ⟨_, _, by rw [HE.out], by rw [HE.out]; exact ⟨(HV.out _ HZ).2, (HV.out _ HZ).1⟩, HZ⟩
end Go.Proofs.YthipcepgbegaiaaGreatDoor

namespace Go.Proofs.YthipcepgbegaiaaGreatDoor
open Go.RowKit
set_option maxRecDepth 100000
set_option maxHeartbeats 4000000 in
theorem patchInvert_l (O : SetOK) (p : PatchL) (mv pv : Value) (w : World) (hT : TabAt w) (hM : MaxAt w) (h : PView w mv pv p) (hN : NeatP p) :
    Calls Tryz.prog 22 #[.agg #[mv, pv]] w fun e w' => ∃ rm rp, e = .returned (.tuple #[.agg #[rm, rp], .int .i64 (invertN p).2]) ∧ PFresh w.heap.size rm rp (invertN p).1 w' ∧ Below w.heap.size w w' := by
  have CK := Lib.hid (fun (u : World) (hb : Below w.heap.size w u) => patchCheck_l O p mv pv u (hT.below hb) (hM.below hb) (h.below hb) hN)
  have M1 := fun (u : World) (hb : Below w.heap.size w u) => O.minus p.plus [] pv (.slice none 0 0) u (h.2.below hb) (QOwn.nil 0 u).view (by have := hN.2.1; omega) (by simp)
  have M2 := fun (u : World) (hb : Below w.heap.size w u) => O.minus p.minus [] mv (.slice none 0 0) u (h.1.below hb) (QOwn.nil 0 u).view (by have := hN.1.1; omega) (by simp)
  have HD : Hid (invertN p = if checkN p ≠ 0 then (noPatch, checkN p) else (⟨p.plus, p.minus⟩, 0)) := Lib.hid rfl
  have HF : Hid (checkN p = 0 → Rise p.minus ∧ Rise p.plus) := Lib.hid (fun h => ⟨((checkN_ok p).1 h).1.rise, ((checkN_ok p).1 h).2.1.rise⟩)
  obtain ⟨pm, cm, rfl⟩ := h.1.form
  obtain ⟨pp, cp, rfl⟩ := h.2.form
  have HB0 : Hid (Below w.heap.size w ((w.alloc (.cells #[.slice pm p.minus.length cm, .slice pp p.plus.length cp] 24)).alloc (.cells #[.slice none 0 0, .slice none 0 0] 24))) := Lib.hid (((Below.refl _ _).alloc (Nat.le_refl _) _).alloc (by simp) _)
  have SB : Hid (∀ w', Below ((w.alloc (.cells #[.slice pm p.minus.length cm, .slice pp p.plus.length cp] 24)).alloc (.cells #[.slice none 0 0, .slice none 0 0] 24)).heap.size ((w.alloc (.cells #[.slice pm p.minus.length cm, .slice pp p.plus.length cp] 24)).alloc (.cells #[.slice none 0 0, .slice none 0 0] 24)) w' → w'.cell? ⟨w.heap.size, 0, none⟩ = some (.slice pm p.minus.length cm) ∧ w'.cell? ⟨w.heap.size, 1, none⟩ = some (.slice pp p.plus.length cp) ∧ w'.cell? ⟨w.heap.size + 1, 0, none⟩ = some (.slice none 0 0) ∧ w'.cell? ⟨w.heap.size + 1, 1, none⟩ = some (.slice none 0 0) ∧ w'.frozen? ⟨w.heap.size + 1, 0, none⟩ = false ∧ w'.frozen? ⟨w.heap.size + 1, 1, none⟩ = false) := Lib.hid (fun w' h => by
    obtain ⟨h1, h2⟩ := held_2 h
    exact ⟨h1.c0, h1.c1, h2.c0, h2.c1, h2.f0, h2.f1⟩)
  have HSZ : Hid (w.heap.size + 1 < ((w.alloc (.cells #[.slice pm p.minus.length cm, .slice pp p.plus.length cp] 24)).alloc (.cells #[.slice none 0 0, .slice none 0 0] 24)).heap.size) := Lib.hid (by simp)
  clear hT hM h hN O
  obtain ⟨n, hn⟩ : ∃ n, checkN p = n := ⟨_, rfl⟩
  rw [hn] at CK HD HF
  clear hn
  obtain ⟨W, hW⟩ : ∃ W, (w.alloc (.cells #[.slice pm p.minus.length cm, .slice pp p.plus.length cp] 24)).alloc (.cells #[.slice none 0 0, .slice none 0 0] 24) = W := ⟨_, rfl⟩
  rw [hW] at HB0 SB HSZ
  have HB7 : Hid (Below W.heap.size W W) := Lib.hid (Below.refl _ _)
  obtain ⟨c0, c1, c2, c3, f2, f3⟩ := SB.out _ HB7.out
  by_cases e1 : n = 0
  case neg =>
    as_aux_lemma =>
    have q1 := (kneR e1).2
    have HE : Hid (invertN p = (noPatch, n)) := Lib.hid (by rw [HD.out, if_pos (c := n ≠ 0) e1])
    clear HD HF e1 M1 M2
    go_enter Tryz.func22, Tryz.ntmps22
    go_wp2_with (go_at_call 16; (with_reducible refine (CK.out _ ?hb).mono ?_); (case hb => exact HB0.out.trans (HB7.out.mono HB0.out.size)); rintro e w3 ⟨rfl, hb3⟩; have HB8 := Lib.hid (HB7.out.trans (hb3.mono HB7.out.size)); clear HB7 hb3; have HB7 := HB8; clear HB8; clear c0 c1 c2 c3 f2 f3; obtain ⟨c0, c1, c2, c3, f2, f3⟩ := SB.out _ HB7.out)
    refine bodyPost_ret (v := .tuple #[.agg #[.slice none 0 0, .slice none 0 0], .int .i64 n]) (by simp [results, Tryz.results22, go_sem, c2, c3]) rfl ?_
    exact ⟨_, _, by rw [HE.out], by rw [HE.out]; exact PFresh.nil _ _, ((HB0.out.trans (HB7.out.mono HB0.out.size)).setCell (p := ⟨w.heap.size + 1, 0, none⟩) (by simp only; omega) _).setCell (p := ⟨w.heap.size + 1, 1, none⟩) (by simp only; omega) _⟩
  subst e1
  obtain ⟨r1, r2⟩ := HF.out rfl
  rw [minus_nil r2] at M1
  rw [minus_nil r1] at M2
  have M1 := Lib.hid M1
  have M2 := Lib.hid M2
  clear r1 r2 HF
  as_aux_lemma =>
    have HE : Hid (invertN p = (⟨p.plus, p.minus⟩, 0)) := Lib.hid (by rw [HD.out]; rfl)
    clear HD
    go_enter Tryz.func22, Tryz.ntmps22
    go_upto_region 4 with (go_at_call 16; (with_reducible refine (CK.out _ ?hb).mono ?_); (case hb => exact HB0.out.trans (HB7.out.mono HB0.out.size)); rintro e w3 ⟨rfl, hb3⟩; have HB8 := Lib.hid (HB7.out.trans (hb3.mono HB7.out.size)); clear HB7 hb3; have HB7 := HB8; clear HB8; clear c0 c1 c2 c3 f2 f3; obtain ⟨c0, c1, c2, c3, f2, f3⟩ := SB.out _ HB7.out)
    clear c0 c1 c2 c3 f2 f3
    have SB2 : Hid (∀ w', Below W.heap.size W w' → w'.cell? ⟨w.heap.size, 0, none⟩ = some (.slice pm p.minus.length cm) ∧ w'.cell? ⟨w.heap.size, 1, none⟩ = some (.slice pp p.plus.length cp)) := Lib.hid (fun w' h => by
      obtain ⟨z0, z1, _⟩ := SB.out w' h
      exact ⟨z0, z1⟩)
    have HB9 := Lib.hid (HB7.out.trans ((below_drewN _ 1).mono HB7.out.size))
    clear HB7
    have HB7 := HB9
    clear HB9
    go_region_held3 (fun w' => w'.cell? ⟨w.heap.size, 0, none⟩ = some (.slice pm p.minus.length cm) ∧ w'.cell? ⟨w.heap.size, 1, none⟩ = some (.slice pp p.plus.length cp)) (first | exact SB2.out _ HB7.out | exact two_keep (SB2.out _ HB7.out) | exact two_keep (two_keep (SB2.out _ HB7.out))) (first | (go_at_call 38; (with_reducible refine (M1.out _ ?hb).mono ?_); (case hb => exact HB0.out.trans (HB7.out.mono HB0.out.size)); rintro e w8 ⟨vv, rfl, ho, hb8⟩; obtain ⟨qa8, qc8, rfl⟩ := ho.view.form; have HO8 := Lib.hid ho; have HX8 := Lib.hid hb8; have HP8 := HB7; clear ho; have HB8 := Lib.hid (HB7.out.trans (hb8.mono HB7.out.size)); clear HB7 hb8; have HB7 := HB8; clear HB8) | (go_at_call 38; (with_reducible refine (M2.out _ ?hb).mono ?_); (case hb => exact HB0.out.trans (HB7.out.mono HB0.out.size)); rintro e w9 ⟨vv, rfl, ho, hb9⟩; obtain ⟨qa9, qc9, rfl⟩ := ho.view.form; have HO9 := Lib.hid ho; have HX9 := Lib.hid hb9; have HP9 := HB7; clear ho; have HB8 := Lib.hid (HB7.out.trans (hb9.mono HB7.out.size)); clear HB7 hb9; have HB7 := HB8; clear HB8; obtain ⟨_, _, c2, c3, f2, f3⟩ := SB.out _ HB7.out))
    go_wp2_with fail
    refine bodyPost_ret (v := .tuple #[.agg #[.slice qa8 p.plus.length qc8, .slice qa9 p.minus.length qc9], .int .i64 0]) (by simp [results, Tryz.results22, go_sem, c2, c3]) rfl ?_
    have sz := Nat.lt_of_lt_of_le HSZ.out HP8.out.size
    obtain ⟨x1, x2⟩ := patch_fin3 (w := w) (g := w.heap.size + 1) (by omega) HO8.out sz (Below.refl _ _) HO9.out HX9.out (Below.refl _ _) (HB0.out.trans (HB7.out.mono HB0.out.size)) (Nat.le_trans (by omega) (Nat.le_of_lt sz)) HX8.out.size
    exact ⟨_, _, by rw [HE.out], by rw [HE.out]; exact x1, x2⟩
end Go.Proofs.YthipcepgbegaiaaGreatDoor

namespace Go.Proofs.YthipcepgbegaiaaGreatDoor
open Go.RowKit
set_option maxRecDepth 100000

theorem invertN_len (p : PatchL) : (invertN p).1.minus.length ≤ p.plus.length ∧ (invertN p).1.plus.length ≤ p.minus.length := by
  unfold invertN
  split
  · simp [noPatch]
  · exact ⟨Nat.le_refl _, Nat.le_refl _⟩
theorem composeN_len (p q : PatchL) : (composeN p q).1.minus.length ≤ p.minus.length + q.minus.length ∧ (composeN p q).1.plus.length ≤ p.plus.length + q.plus.length := by
  have h1 := unionS_len (minusS p.minus q.plus) (minusS q.minus p.plus)
  have h2 := minusS_len p.minus q.plus
  have h3 := minusS_len q.minus p.plus
  have h4 := unionS_len (minusS p.plus q.minus) (minusS q.plus p.minus)
  have h5 := minusS_len p.plus q.minus
  have h6 := minusS_len q.plus p.minus
  unfold composeN
  split
  · simp [noPatch]
  · split
    · simp [noPatch]
    · split
      · simp [noPatch]
      · simp only; omega
theorem overN_len (p q : PatchL) : (overN p q).1.minus.length ≤ p.minus.length ∧ (overN p q).1.plus.length ≤ p.plus.length := by
  unfold overN
  split
  · simp [noPatch]
  · split
    · simp [noPatch]
    · exact ⟨minusS_len _ _, minusS_len _ _⟩
theorem joinsC_of {p q : PatchL} {mv pv mv2 pv2 rm rp sm sp : Value} {g gc gd : Nat} {w W u : World} (hW : Below w.heap.size w W) (hu : Below W.heap.size W u) (kW : W.cell? ⟨g, 0, none⟩ = some mv ∧ W.cell? ⟨g, 1, none⟩ = some pv) (kW2 : W.cell? ⟨g + 1, 0, none⟩ = some mv2 ∧ W.cell? ⟨g + 1, 1, none⟩ = some pv2)
    (hT : TabAt w) (hM : MaxAt w) (hp : PView w mv pv p) (hq : PView w mv2 pv2 q) (hc : PRoomy u rm rp p) (hd : PRoomy u sm sp q) (kc : u.cell? ⟨gc, 0, none⟩ = some rm ∧ u.cell? ⟨gc, 1, none⟩ = some rp) (kd : u.cell? ⟨gd, 0, none⟩ = some sm ∧ u.cell? ⟨gd, 1, none⟩ = some sp) : JoinsC p q mv pv mv2 pv2 rm rp sm sp g gc gd u :=
  have hb := hW.trans (hu.mono hW.size)
  ⟨hT.below hb, hM.below hb, hp.below hb, hq.below hb, hc, hd, kc, kd, boxP_kept kW hu, boxP_kept kW2 hu⟩
end Go.Proofs.YthipcepgbegaiaaGreatDoor

