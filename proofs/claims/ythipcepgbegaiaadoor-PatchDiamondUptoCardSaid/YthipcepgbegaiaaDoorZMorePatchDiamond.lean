/-
  What this law wants beyond another claim's texts. By an AI agent.
-/
import Derived.Test.YthipcepgbegaiaaDoorZTagCells
import Derived.Test.YthipcepgbegaiaaDoorZApp
import Derived.Test.YthipcepgbegaiaaDoorZParts
import Derived.Test.YthipcepgbegaiaaDoorZPatch0
import Derived.Test.YthipcepgbegaiaaDoorZTerm0
import Derived.Test.YthipcepgbegaiaaDoorZPatchW3
import Derived.Test.YthipcepgbegaiaaDoorZPatchW2
namespace Go.Proofs.YthipcepgbegaiaaDoor
open Go.RowKit
set_option maxRecDepth 100000

theorem new_cell {w w' : World} {cs : Array Value} {T : TypeId} (h : Below (w.alloc (.cells cs T)).heap.size (w.alloc (.cells cs T)) w') (k : Nat) (x : Value) (hx : cs[k]? = some x) : w'.cell? ⟨w.heap.size, k, none⟩ = some x := by
  rw [h.cell (p := ⟨w.heap.size, k, none⟩) (by simp), World.cell?_alloc_new]
  exact hx
end Go.Proofs.YthipcepgbegaiaaDoor

namespace Go.Proofs.YthipcepgbegaiaaDoor
set_option maxRecDepth 100000

section
variable {a b : List QuadL} (ha : Rise a) (hb : Rise b)
include ha hb
theorem meet_rise : Rise (meetS a b) := by
  unfold meetS
  rw [both_rise ha hb, if_pos rfl]
  exact mergeF_rise _ _ _ _ a b (Nat.le_refl _) ha hb
theorem union_len : (unionS a b).length ≤ a.length + b.length := by
  unfold unionS
  rw [both_rise ha hb, if_pos rfl]
  exact mergeF_len _ _ _ _ a b (Nat.le_refl _)
end
def overN (p q : PatchL) : PatchL × Int :=
  if firstN (checkN p) (checkN q) ≠ 0 then (noPatch, firstN (checkN p) (checkN q))
  else if ¬ (meetS p.minus q.plus = [] ∧ meetS p.plus q.minus = []) then (noPatch, 230)
  else (⟨minusS p.minus q.minus, minusS p.plus q.plus⟩, 0)

/-- what is left of one patch behind another, both from one dataset -/
theorem over_diff {a b c : List QuadL} (ha : Fine a) (hb : Fine b) (hc : Fine c) :
    overN ⟨minusS a c, minusS c a⟩ ⟨minusS a b, minusS b a⟩ = (⟨minusS (minusS a c) (minusS a b), minusS (minusS c a) (minusS b a)⟩, 0) := by
  have rab := minus_rise ha.rise hb.rise
  have rba := minus_rise hb.rise ha.rise
  have rac := minus_rise ha.rise hc.rise
  have rca := minus_rise hc.rise ha.rise
  unfold overN
  rw [if_neg, if_neg]
  · intro h
    refine h ⟨empty_of fun x hx => ?_, empty_of fun x hx => ?_⟩
    · rw [mem_meet rac rba, mem_minus ha.rise hc.rise, mem_minus hb.rise ha.rise] at hx; exact hx.2.2 hx.1.1
    · rw [mem_meet rca rab, mem_minus hc.rise ha.rise, mem_minus ha.rise hb.rise] at hx; exact hx.1.2 hx.2.1
  · intro h
    exact h (firstN_zero.2 ⟨(checkN_ok _).2 (diff_fine ha hc), (checkN_ok _).2 (diff_fine ha hb)⟩)
/-- both ways lead to the same: what one has then -/
def diamondS (a b c : List QuadL) : List QuadL := unionS (minusS b (minusS (minusS a c) (minusS a b))) (minusS (minusS c a) (minusS b a))
section
variable {a b c : List QuadL} (ha : Fine a) (hb : Fine b) (hc : Fine c)
include ha hb hc
theorem diamond_mem (x : QuadL) : x ∈ diamondS a b c ↔ (x ∈ b ∧ ¬ (x ∈ a ∧ x ∉ c)) ∨ (x ∈ c ∧ x ∉ a ∧ x ∉ b) := by
  have rab := minus_rise ha.rise hb.rise
  have rba := minus_rise hb.rise ha.rise
  have rac := minus_rise ha.rise hc.rise
  have rca := minus_rise hc.rise ha.rise
  unfold diamondS
  rw [mem_union (minus_rise hb.rise (minus_rise rac rab)) (minus_rise rca rba), mem_minus hb.rise (minus_rise rac rab), mem_minus rac rab, mem_minus rca rba, mem_minus ha.rise hc.rise, mem_minus ha.rise hb.rise, mem_minus hc.rise ha.rise, mem_minus hb.rise ha.rise]
  by_cases h1 : x ∈ a <;> by_cases h2 : x ∈ b <;> by_cases h3 : x ∈ c <;> simp [h1, h2, h3]
theorem diamond_rise : Rise (diamondS a b c) :=
  union_rise (minus_rise hb.rise (minus_rise (minus_rise ha.rise hc.rise) (minus_rise ha.rise hb.rise))) (minus_rise (minus_rise hc.rise ha.rise) (minus_rise hb.rise ha.rise))
theorem diamond_apply (hn : b.length + c.length ≤ 1048576) : behindN true b ⟨minusS (minusS a c) (minusS a b), minusS (minusS c a) (minusS b a)⟩ = (diamondS a b c, 0) := by
  have rab := minus_rise ha.rise hb.rise
  have rba := minus_rise hb.rise ha.rise
  have rac := minus_rise ha.rise hc.rise
  have rca := minus_rise hc.rise ha.rise
  refine behindN_ok hb ⟨(ha.minus hc).minus (ha.minus hb), (hc.minus ha).minus (hb.minus ha), fun x hx hy => ?_⟩ (fun _ => ⟨fun x hx => ?_, fun x hx => ?_⟩) ?_
  · rw [mem_minus rac rab, mem_minus ha.rise hc.rise] at hx
    rw [mem_minus rca rba, mem_minus hc.rise ha.rise] at hy
    exact hx.1.2 hy.1.1
  · rw [mem_minus rac rab, mem_minus ha.rise hc.rise, mem_minus ha.rise hb.rise] at hx
    by_cases h : x ∈ b
    · exact h
    · exact absurd ⟨hx.1.1, h⟩ hx.2
  · rw [mem_minus rca rba, mem_minus hc.rise ha.rise, mem_minus hb.rise ha.rise] at hx
    intro h
    exact hx.2 ⟨h, hx.1.2⟩
  · have h1 := union_len (minus_rise hb.rise (minus_rise rac rab)) (minus_rise rca rba)
    have h2 := minus_len hb.rise (minus_rise rac rab)
    have h3 := minus_len rca rba
    have h4 := minus_len hc.rise ha.rise
    simp only
    omega
theorem diamond_out : meetS (diamondS a b c) (minusS a b) = [] ∧ meetS (diamondS a b c) (minusS a c) = [] := by
  have hd := diamond_rise ha hb hc
  constructor
  · refine empty_of fun x hx => ?_
    rw [mem_meet hd (minus_rise ha.rise hb.rise), diamond_mem ha hb hc, mem_minus ha.rise hb.rise] at hx
    by_cases h1 : x ∈ a <;> by_cases h2 : x ∈ b <;> by_cases h3 : x ∈ c <;> simp [h1, h2, h3] at hx
  · refine empty_of fun x hx => ?_
    rw [mem_meet hd (minus_rise ha.rise hc.rise), diamond_mem ha hb hc, mem_minus ha.rise hc.rise] at hx
    by_cases h1 : x ∈ a <;> by_cases h2 : x ∈ b <;> by_cases h3 : x ∈ c <;> simp [h1, h2, h3] at hx
theorem diamond_in : meetS (diamondS a b c) (minusS b a) = minusS b a ∧ meetS (diamondS a b c) (minusS c a) = minusS c a := by
  have hd := diamond_rise ha hb hc
  constructor
  · refine rise_ext (meet_rise hd (minus_rise hb.rise ha.rise)) (minus_rise hb.rise ha.rise) fun x => ?_
    rw [mem_meet hd (minus_rise hb.rise ha.rise), diamond_mem ha hb hc, mem_minus hb.rise ha.rise]
    by_cases h1 : x ∈ a <;> by_cases h2 : x ∈ b <;> by_cases h3 : x ∈ c <;> simp [h1, h2, h3]
  · refine rise_ext (meet_rise hd (minus_rise hc.rise ha.rise)) (minus_rise hc.rise ha.rise) fun x => ?_
    rw [mem_meet hd (minus_rise hc.rise ha.rise), diamond_mem ha hb hc, mem_minus hc.rise ha.rise]
    by_cases h1 : x ∈ a <;> by_cases h2 : x ∈ b <;> by_cases h3 : x ∈ c <;> simp [h1, h2, h3]
end
theorem diamond_swap {a b c : List QuadL} (ha : Fine a) (hb : Fine b) (hc : Fine c) : diamondS a b c = diamondS a c b := by
  refine rise_ext (diamond_rise ha hb hc) (diamond_rise ha hc hb) fun x => ?_
  rw [diamond_mem ha hb hc, diamond_mem ha hc hb]
  by_cases h1 : x ∈ a <;> by_cases h2 : x ∈ b <;> by_cases h3 : x ∈ c <;> simp [h1, h2, h3]
end Go.Proofs.YthipcepgbegaiaaDoor

namespace Go.Proofs.YthipcepgbegaiaaDoor
open Go.RowKit
set_option maxRecDepth 100000

theorem four_set {w u : World} {x y z t v : Value} {k : Nat} (h : u.cell? ⟨w.heap.size, 0, none⟩ = some x ∧ u.cell? ⟨w.heap.size, 1, none⟩ = some y ∧ u.cell? ⟨w.heap.size + 1, 0, none⟩ = some z ∧ u.cell? ⟨w.heap.size + 1, 1, none⟩ = some t) :
    (u.setCell ⟨w.heap.size + 1 + 1, k, none⟩ v).cell? ⟨w.heap.size, 0, none⟩ = some x ∧ (u.setCell ⟨w.heap.size + 1 + 1, k, none⟩ v).cell? ⟨w.heap.size, 1, none⟩ = some y ∧ (u.setCell ⟨w.heap.size + 1 + 1, k, none⟩ v).cell? ⟨w.heap.size + 1, 0, none⟩ = some z ∧ (u.setCell ⟨w.heap.size + 1 + 1, k, none⟩ v).cell? ⟨w.heap.size + 1, 1, none⟩ = some t := by
  refine ⟨?_, ?_, ?_, ?_⟩
  · rw [World.cell?_setCell_other _ _ _ _ (by simp)]; exact h.1
  · rw [World.cell?_setCell_other _ _ _ _ (by simp)]; exact h.2.1
  · rw [World.cell?_setCell_other _ _ _ _ (by simp)]; exact h.2.2.1
  · rw [World.cell?_setCell_other _ _ _ _ (by simp)]; exact h.2.2.2
/-- what a call that has stored two lists of its own in its result's cells leaves -/
theorem patch_fin3 {w u4 w4 u5 w5 w6 : World} {g : Nat} {a b : List QuadL} {mv pv : Value} (hg : w.heap.size ≤ g) (hm : QOwn u4.heap.size mv a w4) (hu4 : g < u4.heap.size) (b45 : Below w4.heap.size w4 u5) (hp : QOwn u5.heap.size pv b w5) (b5 : Below u5.heap.size u5 w5) (b56 : Below w5.heap.size w5 w6) (b6 : Below w.heap.size w w6) (hu : w.heap.size ≤ u4.heap.size) (h4 : u4.heap.size ≤ w4.heap.size) :
    PFresh w.heap.size mv pv ⟨a, b⟩ ((w6.setCell ⟨g, 0, none⟩ mv).setCell ⟨g, 1, none⟩ pv) ∧ Below w.heap.size w ((w6.setCell ⟨g, 0, none⟩ mv).setCell ⟨g, 1, none⟩ pv) := by
  have h45 := b45.size
  have h55 := b5.size
  have m6 : QOwn u4.heap.size mv a w6 := ((hm.below b45).below b5).below b56
  have p6 : QOwn u5.heap.size pv b w6 := hp.below b56
  refine ⟨⟨((m6.set ⟨g, 0, none⟩ mv hu4).set ⟨g, 1, none⟩ pv hu4).less hu, ((p6.set ⟨g, 0, none⟩ mv (by simp only; omega)).set ⟨g, 1, none⟩ pv (by simp only; omega)).less (by omega), hm.apart hp h45⟩, ?_⟩
  exact (b6.setCell (p := ⟨g, 0, none⟩) hg _).setCell (p := ⟨g, 1, none⟩) hg _

set_option maxHeartbeats 4000000 in
theorem patchOver_l (O : SetOK) (p q : PatchL) (mv pv mv2 pv2 : Value) (w : World) (hT : TabAt w) (hM : MaxAt w) (h : PView w mv pv p) (h2 : PView w mv2 pv2 q) (hN : NeatP p) (hN2 : NeatP q) :
    Calls Tryd.prog 12 #[.agg #[mv, pv], .agg #[mv2, pv2]] w fun e w' => ∃ rm rp, e = .returned (.tuple #[.agg #[rm, rp], .int .i64 (overN p q).2]) ∧ PFresh w.heap.size rm rp (overN p q).1 w' ∧ Below w.heap.size w w' := by
  have CP := Lib.hid (fun (u : World) (hb : Below w.heap.size w u) => patchCheck_l O p mv pv u (hT.below hb) (hM.below hb) (h.below hb) hN)
  have CQ := Lib.hid (fun (u : World) (hb : Below w.heap.size w u) => patchCheck_l O q mv2 pv2 u (hT.below hb) (hM.below hb) (h2.below hb) hN2)
  have ME1 := Lib.hid (fun (u : World) (hb : Below w.heap.size w u) => O.meet p.minus q.plus mv pv2 u (h.1.below hb) (h2.2.below hb) (by have := hN.1.1; omega) (by have := hN2.2.1; omega))
  have ME2 := Lib.hid (fun (u : World) (hb : Below w.heap.size w u) => O.meet p.plus q.minus pv mv2 u (h.2.below hb) (h2.1.below hb) (by have := hN.2.1; omega) (by have := hN2.1.1; omega))
  have M1 := Lib.hid (fun (u : World) (hb : Below w.heap.size w u) => O.minus p.minus q.minus mv mv2 u (h.1.below hb) (h2.1.below hb) (by have := hN.1.1; omega) (by have := hN2.1.1; omega))
  have M2 := Lib.hid (fun (u : World) (hb : Below w.heap.size w u) => O.minus p.plus q.plus pv pv2 u (h.2.below hb) (h2.2.below hb) (by have := hN.2.1; omega) (by have := hN2.2.1; omega))
  have OR := Lib.hid (fun (g : Nat) (u : World) => orErr_l (checkN p) (checkN q) g u)
  have HD : Hid (overN p q = if firstN (checkN p) (checkN q) ≠ 0 then (noPatch, firstN (checkN p) (checkN q)) else if ¬ (meetS p.minus q.plus = [] ∧ meetS p.plus q.minus = []) then (noPatch, 230) else (⟨minusS p.minus q.minus, minusS p.plus q.plus⟩, 0)) := Lib.hid rfl
  obtain ⟨pm, cm, rfl⟩ := h.1.form
  obtain ⟨pp, cp, rfl⟩ := h.2.form
  obtain ⟨qm, dm, rfl⟩ := h2.1.form
  obtain ⟨qp, dp, rfl⟩ := h2.2.form
  have HB0 : Hid (Below w.heap.size w (((w.alloc (.cells #[.slice pm p.minus.length cm, .slice pp p.plus.length cp] 26)).alloc (.cells #[.slice qm q.minus.length dm, .slice qp q.plus.length dp] 26)).alloc (.cells #[.slice none 0 0, .slice none 0 0] 26))) := Lib.hid ((((Below.refl _ _).alloc (Nat.le_refl _) _).alloc (by simp) _).alloc (by simp; omega) _)
  have SB : Hid (∀ w', Below (((w.alloc (.cells #[.slice pm p.minus.length cm, .slice pp p.plus.length cp] 26)).alloc (.cells #[.slice qm q.minus.length dm, .slice qp q.plus.length dp] 26)).alloc (.cells #[.slice none 0 0, .slice none 0 0] 26)).heap.size (((w.alloc (.cells #[.slice pm p.minus.length cm, .slice pp p.plus.length cp] 26)).alloc (.cells #[.slice qm q.minus.length dm, .slice qp q.plus.length dp] 26)).alloc (.cells #[.slice none 0 0, .slice none 0 0] 26)) w' → w'.cell? ⟨w.heap.size, 0, none⟩ = some (.slice pm p.minus.length cm) ∧ w'.cell? ⟨w.heap.size, 1, none⟩ = some (.slice pp p.plus.length cp) ∧ w'.cell? ⟨w.heap.size + 1, 0, none⟩ = some (.slice qm q.minus.length dm) ∧ w'.cell? ⟨w.heap.size + 1, 1, none⟩ = some (.slice qp q.plus.length dp) ∧ w'.cell? ⟨w.heap.size + 1 + 1, 0, none⟩ = some (.slice none 0 0) ∧ w'.cell? ⟨w.heap.size + 1 + 1, 1, none⟩ = some (.slice none 0 0) ∧ w'.frozen? ⟨w.heap.size + 1 + 1, 0, none⟩ = false ∧ w'.frozen? ⟨w.heap.size + 1 + 1, 1, none⟩ = false) := Lib.hid (fun w' h => by
    obtain ⟨h1, h2, h3⟩ := held_3 h
    exact ⟨h1.c0, h1.c1, h2.c0, h2.c1, h3.c0, h3.c1, h3.f0, h3.f1⟩)
  have HSZ : Hid (w.heap.size + 1 + 1 < (((w.alloc (.cells #[.slice pm p.minus.length cm, .slice pp p.plus.length cp] 26)).alloc (.cells #[.slice qm q.minus.length dm, .slice qp q.plus.length dp] 26)).alloc (.cells #[.slice none 0 0, .slice none 0 0] 26)).heap.size) := Lib.hid (by simp)
  clear hT hM h h2 hN hN2 O
  obtain ⟨n, hn⟩ : ∃ n, firstN (checkN p) (checkN q) = n := ⟨_, rfl⟩
  rw [hn] at HD
  rw [orI_firstN, hn] at OR
  clear hn
  obtain ⟨W, hW⟩ : ∃ W, ((w.alloc (.cells #[.slice pm p.minus.length cm, .slice pp p.plus.length cp] 26)).alloc (.cells #[.slice qm q.minus.length dm, .slice qp q.plus.length dp] 26)).alloc (.cells #[.slice none 0 0, .slice none 0 0] 26) = W := ⟨_, rfl⟩
  rw [hW] at HB0 SB HSZ
  have HB7 : Hid (Below W.heap.size W W.drew) := Lib.hid (below_drewN W 1)
  by_cases n0 : n = 0
  · have q9 : (n != 0) = false := by rw [n0]; rfl
    have HD2 : Hid (overN p q = if ¬ (meetS p.minus q.plus = [] ∧ meetS p.plus q.minus = []) then (noPatch, 230) else (⟨minusS p.minus q.minus, minusS p.plus q.plus⟩, 0)) := Lib.hid (by
      rw [HD.out, if_neg (fun h => h n0)])
    clear HD n0
    by_cases h1 : 0 < (meetS p.minus q.plus).length
    · as_aux_lemma =>
      have HE : Hid (overN p q = (noPatch, 230)) := Lib.hid (by rw [HD2.out, if_pos (fun h => by rw [h.1] at h1; simp at h1)])
      rw [decide_eq_true h1] at ME1
      clear HD2
      go_enter Tryd.func12, Tryd.ntmps12
      go_wp2_with fail
      go_region_held3 (fun w' => w'.cell? ⟨w.heap.size, 0, none⟩ = some (.slice pm p.minus.length cm) ∧ w'.cell? ⟨w.heap.size, 1, none⟩ = some (.slice pp p.plus.length cp) ∧ w'.cell? ⟨w.heap.size + 1, 0, none⟩ = some (.slice qm q.minus.length dm) ∧ w'.cell? ⟨w.heap.size + 1, 1, none⟩ = some (.slice qp q.plus.length dp) ∧ w'.cell? ⟨w.heap.size + 1 + 1, 0, none⟩ = some (.slice none 0 0) ∧ w'.cell? ⟨w.heap.size + 1 + 1, 1, none⟩ = some (.slice none 0 0) ∧ w'.frozen? ⟨w.heap.size + 1 + 1, 0, none⟩ = false ∧ w'.frozen? ⟨w.heap.size + 1 + 1, 1, none⟩ = false) (first | exact SB.out _ HB7.out | exact SB.out _ (HB7.out.alloc HB7.out.size _)) (first | (go_at_call 19; (with_reducible refine (CP.out _ ?hb).mono ?_); (case hb => exact HB0.out.trans (HB7.out.mono HB0.out.size)); rintro e w3 ⟨rfl, hb3⟩; have HB8 := Lib.hid (HB7.out.trans (hb3.mono HB7.out.size)); clear HB7 hb3; have HB7 := HB8; clear HB8) | (go_at_call 19; (with_reducible refine (CQ.out _ ?hb).mono ?_); (case hb => exact HB0.out.trans (HB7.out.mono HB0.out.size)); rintro e w4 ⟨rfl, hb4⟩; have HB8 := Lib.hid (HB7.out.trans (hb4.mono HB7.out.size)); clear HB7 hb4; have HB7 := HB8; clear HB8) | (go_at_call 18; (with_reducible refine (OR.out _ _ ?c0 ?c1).mono ?_); (case c0 => go_simp); (case c1 => go_simp); rintro e w5 ⟨rfl, rfl⟩))
      have HB9 := Lib.hid (HB7.out.alloc HB7.out.size (.cells #[.int .i64 (checkN p), .int .i64 (checkN q)] 27))
      clear HB7
      have HB7 := HB9
      clear HB9
      obtain ⟨c0, c1, c2, c3, c4, c5, f4, f5⟩ := SB.out _ HB7.out
      go_wp2_with (go_at_call 20; (with_reducible refine (ME1.out _ ?hb).mono ?_); (case hb => exact HB0.out.trans (HB7.out.mono HB0.out.size)); rintro e w6 ⟨rfl, hb6⟩; have HB8 := Lib.hid (HB7.out.trans (hb6.mono HB7.out.size)); clear HB7 hb6; have HB7 := HB8; clear HB8; obtain ⟨c0, c1, c2, c3, c4, c5, f4, f5⟩ := SB.out _ HB7.out)
      refine bodyPost_ret (v := .tuple #[.agg #[.slice none 0 0, .slice none 0 0], .int .i64 230]) (by simp [results, Tryd.results12, go_sem, c4, c5]) rfl ?_
      exact ⟨_, _, by rw [HE.out], by rw [HE.out]; exact PFresh.nil _ _, ((HB0.out.trans (HB7.out.mono HB0.out.size)).setCell (p := ⟨w.heap.size + 1 + 1, 0, none⟩) (by simp only; omega) _).setCell (p := ⟨w.heap.size + 1 + 1, 1, none⟩) (by simp only; omega) _⟩
    rw [decide_eq_false h1] at ME1
    by_cases h2 : 0 < (meetS p.plus q.minus).length
    · as_aux_lemma =>
      have HE : Hid (overN p q = (noPatch, 230)) := Lib.hid (by rw [HD2.out, if_pos (fun h => by rw [h.2] at h2; simp at h2)])
      rw [decide_eq_true h2] at ME2
      clear HD2 h1
      go_enter Tryd.func12, Tryd.ntmps12
      go_wp2_with fail
      go_region_held3 (fun w' => w'.cell? ⟨w.heap.size, 0, none⟩ = some (.slice pm p.minus.length cm) ∧ w'.cell? ⟨w.heap.size, 1, none⟩ = some (.slice pp p.plus.length cp) ∧ w'.cell? ⟨w.heap.size + 1, 0, none⟩ = some (.slice qm q.minus.length dm) ∧ w'.cell? ⟨w.heap.size + 1, 1, none⟩ = some (.slice qp q.plus.length dp) ∧ w'.cell? ⟨w.heap.size + 1 + 1, 0, none⟩ = some (.slice none 0 0) ∧ w'.cell? ⟨w.heap.size + 1 + 1, 1, none⟩ = some (.slice none 0 0) ∧ w'.frozen? ⟨w.heap.size + 1 + 1, 0, none⟩ = false ∧ w'.frozen? ⟨w.heap.size + 1 + 1, 1, none⟩ = false) (first | exact SB.out _ HB7.out | exact SB.out _ (HB7.out.alloc HB7.out.size _)) (first | (go_at_call 19; (with_reducible refine (CP.out _ ?hb).mono ?_); (case hb => exact HB0.out.trans (HB7.out.mono HB0.out.size)); rintro e w3 ⟨rfl, hb3⟩; have HB8 := Lib.hid (HB7.out.trans (hb3.mono HB7.out.size)); clear HB7 hb3; have HB7 := HB8; clear HB8) | (go_at_call 19; (with_reducible refine (CQ.out _ ?hb).mono ?_); (case hb => exact HB0.out.trans (HB7.out.mono HB0.out.size)); rintro e w4 ⟨rfl, hb4⟩; have HB8 := Lib.hid (HB7.out.trans (hb4.mono HB7.out.size)); clear HB7 hb4; have HB7 := HB8; clear HB8) | (go_at_call 18; (with_reducible refine (OR.out _ _ ?c0 ?c1).mono ?_); (case c0 => go_simp); (case c1 => go_simp); rintro e w5 ⟨rfl, rfl⟩))
      have HB9 := Lib.hid (HB7.out.alloc HB7.out.size (.cells #[.int .i64 (checkN p), .int .i64 (checkN q)] 27))
      clear HB7
      have HB7 := HB9
      clear HB9
      obtain ⟨c0, c1, c2, c3, c4, c5, f4, f5⟩ := SB.out _ HB7.out
      go_wp2_with (first | (go_at_call 20; (with_reducible refine (ME1.out _ ?hb).mono ?_); (case hb => exact HB0.out.trans (HB7.out.mono HB0.out.size)); rintro e w6 ⟨rfl, hb6⟩; have HB8 := Lib.hid (HB7.out.trans (hb6.mono HB7.out.size)); clear HB7 hb6; have HB7 := HB8; clear HB8; obtain ⟨c0, c1, c2, c3, c4, c5, f4, f5⟩ := SB.out _ HB7.out) | (go_at_call 20; (with_reducible refine (ME2.out _ ?hb).mono ?_); (case hb => exact HB0.out.trans (HB7.out.mono HB0.out.size)); rintro e w7 ⟨rfl, hb7⟩; have HB8 := Lib.hid (HB7.out.trans (hb7.mono HB7.out.size)); clear HB7 hb7; have HB7 := HB8; clear HB8; obtain ⟨c0, c1, c2, c3, c4, c5, f4, f5⟩ := SB.out _ HB7.out))
      refine bodyPost_ret (v := .tuple #[.agg #[.slice none 0 0, .slice none 0 0], .int .i64 230]) (by simp [results, Tryd.results12, go_sem, c4, c5]) rfl ?_
      exact ⟨_, _, by rw [HE.out], by rw [HE.out]; exact PFresh.nil _ _, ((HB0.out.trans (HB7.out.mono HB0.out.size)).setCell (p := ⟨w.heap.size + 1 + 1, 0, none⟩) (by simp only; omega) _).setCell (p := ⟨w.heap.size + 1 + 1, 1, none⟩) (by simp only; omega) _⟩
    rw [decide_eq_false h2] at ME2
    have HE : Hid (overN p q = (⟨minusS p.minus q.minus, minusS p.plus q.plus⟩, 0)) := Lib.hid (by rw [HD2.out, if_neg (fun h => h ⟨List.eq_nil_of_length_eq_zero (by omega), List.eq_nil_of_length_eq_zero (by omega)⟩)])
    clear HD2 h1 h2
    as_aux_lemma =>
      go_enter Tryd.func12, Tryd.ntmps12
      go_wp2_with fail
      go_region_held3 (fun w' => w'.cell? ⟨w.heap.size, 0, none⟩ = some (.slice pm p.minus.length cm) ∧ w'.cell? ⟨w.heap.size, 1, none⟩ = some (.slice pp p.plus.length cp) ∧ w'.cell? ⟨w.heap.size + 1, 0, none⟩ = some (.slice qm q.minus.length dm) ∧ w'.cell? ⟨w.heap.size + 1, 1, none⟩ = some (.slice qp q.plus.length dp) ∧ w'.cell? ⟨w.heap.size + 1 + 1, 0, none⟩ = some (.slice none 0 0) ∧ w'.cell? ⟨w.heap.size + 1 + 1, 1, none⟩ = some (.slice none 0 0) ∧ w'.frozen? ⟨w.heap.size + 1 + 1, 0, none⟩ = false ∧ w'.frozen? ⟨w.heap.size + 1 + 1, 1, none⟩ = false) (first | exact SB.out _ HB7.out | exact SB.out _ (HB7.out.alloc HB7.out.size _)) (first | (go_at_call 19; (with_reducible refine (CP.out _ ?hb).mono ?_); (case hb => exact HB0.out.trans (HB7.out.mono HB0.out.size)); rintro e w3 ⟨rfl, hb3⟩; have HB8 := Lib.hid (HB7.out.trans (hb3.mono HB7.out.size)); clear HB7 hb3; have HB7 := HB8; clear HB8) | (go_at_call 19; (with_reducible refine (CQ.out _ ?hb).mono ?_); (case hb => exact HB0.out.trans (HB7.out.mono HB0.out.size)); rintro e w4 ⟨rfl, hb4⟩; have HB8 := Lib.hid (HB7.out.trans (hb4.mono HB7.out.size)); clear HB7 hb4; have HB7 := HB8; clear HB8) | (go_at_call 18; (with_reducible refine (OR.out _ _ ?c0 ?c1).mono ?_); (case c0 => go_simp); (case c1 => go_simp); rintro e w5 ⟨rfl, rfl⟩))
      have HB9 := Lib.hid (HB7.out.alloc HB7.out.size (.cells #[.int .i64 (checkN p), .int .i64 (checkN q)] 27))
      clear HB7
      have HB7 := HB9
      clear HB9
      obtain ⟨c0, c1, c2, c3, c4, c5, f4, f5⟩ := SB.out _ HB7.out
      have SB4 : Hid (∀ w', Below W.heap.size W w' → w'.cell? ⟨w.heap.size, 0, none⟩ = some (.slice pm p.minus.length cm) ∧ w'.cell? ⟨w.heap.size, 1, none⟩ = some (.slice pp p.plus.length cp) ∧ w'.cell? ⟨w.heap.size + 1, 0, none⟩ = some (.slice qm q.minus.length dm) ∧ w'.cell? ⟨w.heap.size + 1, 1, none⟩ = some (.slice qp q.plus.length dp)) := Lib.hid (fun w' h => by
        obtain ⟨z0, z1, z2, z3, _⟩ := SB.out w' h
        exact ⟨z0, z1, z2, z3⟩)
      go_upto_region 6 with (first | (go_at_call 20; (with_reducible refine (ME1.out _ ?hb).mono ?_); (case hb => exact HB0.out.trans (HB7.out.mono HB0.out.size)); rintro e w6 ⟨rfl, hb6⟩; have HB8 := Lib.hid (HB7.out.trans (hb6.mono HB7.out.size)); clear HB7 hb6; have HB7 := HB8; clear HB8; obtain ⟨c0, c1, c2, c3, c4, c5, f4, f5⟩ := SB.out _ HB7.out) | (go_at_call 20; (with_reducible refine (ME2.out _ ?hb).mono ?_); (case hb => exact HB0.out.trans (HB7.out.mono HB0.out.size)); rintro e w7 ⟨rfl, hb7⟩; have HB8 := Lib.hid (HB7.out.trans (hb7.mono HB7.out.size)); clear HB7 hb7; have HB7 := HB8; clear HB8; obtain ⟨c0, c1, c2, c3, c4, c5, f4, f5⟩ := SB.out _ HB7.out))
      clear c0 c1 c2 c3 c4 c5 f4 f5
      have HB9 := Lib.hid (HB7.out.trans ((below_drewN _ 1).mono HB7.out.size))
      clear HB7
      have HB7 := HB9
      clear HB9
      go_region_held3 (fun w' => w'.cell? ⟨w.heap.size, 0, none⟩ = some (.slice pm p.minus.length cm) ∧ w'.cell? ⟨w.heap.size, 1, none⟩ = some (.slice pp p.plus.length cp) ∧ w'.cell? ⟨w.heap.size + 1, 0, none⟩ = some (.slice qm q.minus.length dm) ∧ w'.cell? ⟨w.heap.size + 1, 1, none⟩ = some (.slice qp q.plus.length dp)) (first | exact SB4.out _ HB7.out | exact four_set (SB4.out _ HB7.out) | exact four_set (four_set (SB4.out _ HB7.out))) (first | (go_at_call 17; (with_reducible refine (M1.out _ ?hb).mono ?_); (case hb => exact HB0.out.trans (HB7.out.mono HB0.out.size)); rintro e w8 ⟨vv, rfl, ho, hb8⟩; obtain ⟨qa8, qc8, rfl⟩ := ho.view.form; have HO8 := Lib.hid ho; have HX8 := Lib.hid hb8; have HP8 := HB7; have HB8 := Lib.hid (HB7.out.trans (hb8.mono HB7.out.size)); clear HB7 ho hb8; have HB7 := HB8; clear HB8) | (go_at_call 17; (with_reducible refine (M2.out _ ?hb).mono ?_); (case hb => exact HB0.out.trans (HB7.out.mono HB0.out.size)); rintro e w9 ⟨vv, rfl, ho, hb9⟩; obtain ⟨qa9, qc9, rfl⟩ := ho.view.form; have HO9 := Lib.hid ho; have HX9 := Lib.hid hb9; have HP9 := HB7; have HB8 := Lib.hid (HB7.out.trans (hb9.mono HB7.out.size)); clear HB7 ho hb9; have HB7 := HB8; clear HB8; obtain ⟨_, _, _, _, c4, c5, f4, f5⟩ := SB.out _ HB7.out))
      go_wp2_with fail
      refine bodyPost_ret (v := .tuple #[.agg #[.slice qa8 (minusS p.minus q.minus).length qc8, .slice qa9 (minusS p.plus q.plus).length qc9], .int .i64 0]) (by simp [results, Tryd.results12, go_sem, c4, c5]) rfl ?_
      have sz := Nat.lt_of_lt_of_le HSZ.out HP8.out.size
      obtain ⟨x1, x2⟩ := patch_fin3 (w := w) (g := w.heap.size + 1 + 1) (by omega) HO8.out sz (Below.refl _ _) HO9.out HX9.out (Below.refl _ _) (HB0.out.trans (HB7.out.mono HB0.out.size)) (Nat.le_trans (by omega) (Nat.le_of_lt sz)) HX8.out.size
      exact ⟨_, _, by rw [HE.out], by rw [HE.out]; exact x1, x2⟩
  · as_aux_lemma =>
    have q9 : (n != 0) = true := by rw [bne, kne n0]; rfl
    have HE : Hid (overN p q = (noPatch, n)) := Lib.hid (by rw [HD.out, if_pos n0])
    clear HD n0
    go_enter Tryd.func12, Tryd.ntmps12
    go_wp2_with fail
    go_region_held3 (fun w' => w'.cell? ⟨w.heap.size, 0, none⟩ = some (.slice pm p.minus.length cm) ∧ w'.cell? ⟨w.heap.size, 1, none⟩ = some (.slice pp p.plus.length cp) ∧ w'.cell? ⟨w.heap.size + 1, 0, none⟩ = some (.slice qm q.minus.length dm) ∧ w'.cell? ⟨w.heap.size + 1, 1, none⟩ = some (.slice qp q.plus.length dp) ∧ w'.cell? ⟨w.heap.size + 1 + 1, 0, none⟩ = some (.slice none 0 0) ∧ w'.cell? ⟨w.heap.size + 1 + 1, 1, none⟩ = some (.slice none 0 0) ∧ w'.frozen? ⟨w.heap.size + 1 + 1, 0, none⟩ = false ∧ w'.frozen? ⟨w.heap.size + 1 + 1, 1, none⟩ = false) (first | exact SB.out _ HB7.out | exact SB.out _ (HB7.out.alloc HB7.out.size _)) (first | (go_at_call 19; (with_reducible refine (CP.out _ ?hb).mono ?_); (case hb => exact HB0.out.trans (HB7.out.mono HB0.out.size)); rintro e w3 ⟨rfl, hb3⟩; have HB8 := Lib.hid (HB7.out.trans (hb3.mono HB7.out.size)); clear HB7 hb3; have HB7 := HB8; clear HB8) | (go_at_call 19; (with_reducible refine (CQ.out _ ?hb).mono ?_); (case hb => exact HB0.out.trans (HB7.out.mono HB0.out.size)); rintro e w4 ⟨rfl, hb4⟩; have HB8 := Lib.hid (HB7.out.trans (hb4.mono HB7.out.size)); clear HB7 hb4; have HB7 := HB8; clear HB8) | (go_at_call 18; (with_reducible refine (OR.out _ _ ?c0 ?c1).mono ?_); (case c0 => go_simp); (case c1 => go_simp); rintro e w5 ⟨rfl, rfl⟩))
    have HB9 := Lib.hid (HB7.out.alloc HB7.out.size (.cells #[.int .i64 (checkN p), .int .i64 (checkN q)] 27))
    clear HB7
    have HB7 := HB9
    clear HB9
    obtain ⟨c0, c1, c2, c3, c4, c5, f4, f5⟩ := SB.out _ HB7.out
    go_wp2_with fail
    refine bodyPost_ret (v := .tuple #[.agg #[.slice none 0 0, .slice none 0 0], .int .i64 n]) (by simp [results, Tryd.results12, go_sem, c4, c5]) rfl ?_
    exact ⟨_, _, by rw [HE.out], by rw [HE.out]; exact PFresh.nil _ _, ((HB0.out.trans (HB7.out.mono HB0.out.size)).setCell (p := ⟨w.heap.size + 1 + 1, 0, none⟩) (by simp only; omega) _).setCell (p := ⟨w.heap.size + 1 + 1, 1, none⟩) (by simp only; omega) _⟩

end Go.Proofs.YthipcepgbegaiaaDoor

