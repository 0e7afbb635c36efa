/-
  tesseralaw23.Same, quad, valid: contracts. By an AI agent.
-/
import Derived.Test.YthipcepgbegaiaaGreatDoorZSameQ
import Derived.Test.YthipcepgbegaiaaGreatDoorZPatchK
import Derived.Test.YthipcepgbegaiaaGreatDoorZLoadQ
import Derived.Test.YthipcepgbegaiaaGreatDoorZPatch0
import Derived.Test.YthipcepgbegaiaaGreatDoorZInvert
import Derived.Test.YthipcepgbegaiaaGreatDoorZPatchW2
namespace Go.Proofs.YthipcepgbegaiaaGreatDoor
open Go.RowKit
set_option maxRecDepth 100000

set_option maxHeartbeats 1000000 in
theorem same_t (p : PatchL) (mv pv mv2 pv2 : Value) (w : World) (h : PView w mv pv p) (h2 : PView w mv2 pv2 p) (n0 : p.minus.length ≤ 4194304) (n1 : p.plus.length ≤ 4194304) :
    Calls Tryz.prog 14 #[.agg #[mv, pv], .agg #[mv2, pv2]] w fun e w' => e = .returned (.bool true) ∧ Below w.heap.size w w' := by
  have S1 := Lib.hid (fun (u : World) (hb : Below w.heap.size w u) => sameQuads_t p.minus mv mv2 u (h.1.below hb) (h2.1.below hb) n0)
  have S2 := Lib.hid (fun (u : World) (hb : Below w.heap.size w u) => sameQuads_t p.plus pv pv2 u (h.2.below hb) (h2.2.below hb) n1)
  have HB0 : Hid (∀ o1 o2, Below w.heap.size w ((w.alloc o1).alloc o2)) := Lib.hid (fun o1 o2 => ((Below.refl _ _).alloc (Nat.le_refl _) _).alloc (by simp) _)
  obtain ⟨pm, cm, rfl⟩ := h.1.form
  obtain ⟨pp, cp, rfl⟩ := h.2.form
  obtain ⟨qm, dm, rfl⟩ := h2.1.form
  obtain ⟨qp, dp, rfl⟩ := h2.2.form
  have SB : Hid (∀ w', Below ((w.alloc (.cells #[.slice pm p.minus.length cm, .slice pp p.plus.length cp] 24)).alloc (.cells #[.slice qm p.minus.length dm, .slice qp p.plus.length dp] 24)).heap.size ((w.alloc (.cells #[.slice pm p.minus.length cm, .slice pp p.plus.length cp] 24)).alloc (.cells #[.slice qm p.minus.length dm, .slice qp p.plus.length dp] 24)) w' →
      w'.cell? ⟨w.heap.size, 0, none⟩ = some (.slice pm p.minus.length cm) ∧ w'.cell? ⟨w.heap.size, 1, none⟩ = some (.slice pp p.plus.length cp) ∧ w'.cell? ⟨w.heap.size + 1, 0, none⟩ = some (.slice qm p.minus.length dm) ∧ w'.cell? ⟨w.heap.size + 1, 1, none⟩ = some (.slice qp p.plus.length dp)) := Lib.hid (fun w' hb => by
    obtain ⟨e1, e2⟩ := held2 rfl hb
    exact ⟨e1 0 _ rfl, e1 1 _ rfl, e2 0 _ rfl, e2 1 _ rfl⟩)
  clear h h2 n0 n1
  go_enter Tryz.func14, Tryz.ntmps14
  go_wp2_with (first | (go_at_call 15; (with_reducible refine (S1.out _ (HB0.out _ _)).mono ?_); rintro e w3 ⟨rfl, hb3⟩; obtain ⟨c0, c1, c2, c3⟩ := SB.out _ hb3; have HB := Lib.hid ((HB0.out _ _).trans (hb3.mono (HB0.out _ _).size)); clear hb3 S1) | (go_at_call 15; (with_reducible refine (S2.out _ HB.out).mono ?_); rintro e w4 ⟨rfl, hb4⟩; have HB4 := Lib.hid (HB.out.trans (hb4.mono HB.out.size)); clear hb4 S2))
  go_ret
  exact ⟨rfl, HB4.out⟩
end Go.Proofs.YthipcepgbegaiaaGreatDoor

/-
  PatchMakes, PatchJoins: lengths; what their walks carry: contracts. By an AI agent.
-/
namespace Go.Proofs.YthipcepgbegaiaaGreatDoor
open Go.RowKit
set_option maxRecDepth 100000

theorem diffN_len (a b : List QuadL) : (diffN a b).1.minus.length ≤ a.length ∧ (diffN a b).1.plus.length ≤ b.length := by
  unfold diffN
  split
  · simp [noPatch]
  · exact ⟨minusS_len a b, minusS_len b a⟩
theorem behindN_len (must : Bool) (l : List QuadL) (p : PatchL) : (behindN must l p).1.length ≤ l.length + p.plus.length := by
  have h1 := unionS_len (minusS l p.minus) p.plus
  have h2 := minusS_len l p.minus
  unfold behindN
  split
  · simp
  · split
    · simp
    · split
      · simp
      · simp only; omega
theorem PFresh.less {b1 b2 : Nat} {mv pv : Value} {p : PatchL} {w : World} (h : PFresh b2 mv pv p w) (hb : b1 ≤ b2) : PFresh b1 mv pv p w := ⟨h.1.less hb, h.2.1.less hb, h.2.2⟩
theorem boxP_new {w : World} {x y : Value} {T : TypeId} : (w.alloc (.cells #[x, y] T)).cell? ⟨w.heap.size, 0, none⟩ = some x ∧ (w.alloc (.cells #[x, y] T)).cell? ⟨w.heap.size, 1, none⟩ = some y := ⟨by rw [World.cell?_alloc_new]; rfl, by rw [World.cell?_alloc_new]; rfl⟩
theorem boxP_kept {V u : World} {g : Nat} {x y : Value} (h : V.cell? ⟨g, 0, none⟩ = some x ∧ V.cell? ⟨g, 1, none⟩ = some y) (hb : Below V.heap.size V u) : u.cell? ⟨g, 0, none⟩ = some x ∧ u.cell? ⟨g, 1, none⟩ = some y := by
  have hz := World.block_lt_of_cell? _ _ h.1
  exact ⟨(hb.cell (p := ⟨g, 0, none⟩) hz).trans h.1, (hb.cell (p := ⟨g, 1, none⟩) hz).trans h.2⟩
theorem roomy_first {w : World} {b g : Nat} {l : List QuadL} {n c : Nat} {x : Option Addr} (h : QAt w (some ⟨b, 0, none⟩) (l ++ [markQ, markQ])) (hc : w.cell? ⟨g, 0, none⟩ = some (.slice x n c)) : b ≠ g := by
  intro e
  subst e
  have hl : 0 < (l ++ [markQ, markQ]).length := by simp
  have h0 := (h.get (k := 0) hl) 0 _ rfl
  simp only [Nat.zero_mul, Nat.add_zero] at h0
  rw [hc] at h0
  simp at h0
/-- a roomy copy stays where a box is filled -/
theorem roomy_box {w : World} {v x y : Value} {l : List QuadL} {g : Nat} {T : TypeId} (h : RoomyAt w v l) (hb : w.heap[g]? = some (.cells #[.slice none 0 0, .slice none 0 0] T (0, 0))) : RoomyAt ((w.setCell ⟨g, 0, none⟩ x).setCell ⟨g, 1, none⟩ y) v l := by
  obtain ⟨b, rfl, hq⟩ := h
  have hne := roomy_first hq (row2 hb).1
  exact ⟨b, rfl, qat_set (qat_set hq hne) hne⟩
/-- what PatchMakes carries -/
structure MakesC (a b : List QuadL) (p : PatchL) (v0 v1 mv pv c d rm rp : Value) (g go : Nat) (u : World) : Prop where
  T : TabAt u
  M : MaxAt u
  v0 : QView u v0 a
  v1 : QView u v1 b
  P : PView u mv pv p
  c : RoomyAt u c a
  d : RoomyAt u d b
  o : PRoomy u rm rp p
  ko : u.cell? ⟨go, 0, none⟩ = some rm ∧ u.cell? ⟨go, 1, none⟩ = some rp
  kp : u.cell? ⟨g, 0, none⟩ = some mv ∧ u.cell? ⟨g, 1, none⟩ = some pv
theorem MakesC.below {a b : List QuadL} {p : PatchL} {v0 v1 mv pv c d rm rp : Value} {g go : Nat} {u u' : World} (h : MakesC a b p v0 v1 mv pv c d rm rp g go u) (hb : Below u.heap.size u u') : MakesC a b p v0 v1 mv pv c d rm rp g go u' :=
  ⟨h.T.below hb, h.M.below hb, h.v0.below hb, h.v1.below hb, h.P.below hb, h.c.below hb, h.d.below hb, h.o.below hb, boxP_kept h.ko hb, boxP_kept h.kp hb⟩
theorem makesC_of {a b : List QuadL} {p : PatchL} {v0 v1 mv pv c d rm rp : Value} {g go : Nat} {w W u : World} (hW : Below w.heap.size w W) (hu : Below W.heap.size W u) (kW : W.cell? ⟨g, 0, none⟩ = some mv ∧ W.cell? ⟨g, 1, none⟩ = some pv)
    (hT : TabAt w) (hM : MaxAt w) (h0 : QView w v0 a) (h1 : QView w v1 b) (hp : PView w mv pv p) (hc : RoomyAt u c a) (hd : RoomyAt u d b) (ho : PRoomy u rm rp p) (ko : u.cell? ⟨go, 0, none⟩ = some rm ∧ u.cell? ⟨go, 1, none⟩ = some rp) : MakesC a b p v0 v1 mv pv c d rm rp g go u :=
  have hb := hW.trans (hu.mono hW.size)
  ⟨hT.below hb, hM.below hb, h0.below hb, h1.below hb, hp.below hb, hc, hd, ho, ko, boxP_kept kW hu⟩
/-- what PatchJoins carries -/
structure JoinsC (p q : PatchL) (mv pv mv2 pv2 rm rp sm sp : Value) (g gc gd : Nat) (u : World) : Prop where
  T : TabAt u
  M : MaxAt u
  P : PView u mv pv p
  Q : PView u mv2 pv2 q
  c : PRoomy u rm rp p
  d : PRoomy u sm sp q
  kc : u.cell? ⟨gc, 0, none⟩ = some rm ∧ u.cell? ⟨gc, 1, none⟩ = some rp
  kd : u.cell? ⟨gd, 0, none⟩ = some sm ∧ u.cell? ⟨gd, 1, none⟩ = some sp
  kp : u.cell? ⟨g, 0, none⟩ = some mv ∧ u.cell? ⟨g, 1, none⟩ = some pv
  kq : u.cell? ⟨g + 1, 0, none⟩ = some mv2 ∧ u.cell? ⟨g + 1, 1, none⟩ = some pv2
theorem JoinsC.below {p q : PatchL} {mv pv mv2 pv2 rm rp sm sp : Value} {g gc gd : Nat} {u u' : World} (h : JoinsC p q mv pv mv2 pv2 rm rp sm sp g gc gd u) (hb : Below u.heap.size u u') : JoinsC p q mv pv mv2 pv2 rm rp sm sp g gc gd u' :=
  ⟨h.T.below hb, h.M.below hb, h.P.below hb, h.Q.below hb, h.c.below hb, h.d.below hb, boxP_kept h.kc hb, boxP_kept h.kd hb, boxP_kept h.kp hb, boxP_kept h.kq hb⟩
end Go.Proofs.YthipcepgbegaiaaGreatDoor
