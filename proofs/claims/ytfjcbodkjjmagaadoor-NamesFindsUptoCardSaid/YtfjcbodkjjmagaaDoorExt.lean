/-
  names.Extended: contract; strings.Split at a hyphen. By an AI agent.
-/
import Derived.Test.YtfjcbodkjjmagaaDoorBasic
import Derived.Test.YtfjcbodkjjmagaaDoorView
import Derived.Test.YtfjcbodkjjmagaaDoorGPlain
import Derived.WalkSmall
namespace Go.Proofs.YtfjcbodkjjmagaaDoor
open Go.RowKit
set_option maxRecDepth 100000

theorem sizeStr2 (w : World) : (Go.sizeOf 9).run Tryd.prog w = .ok 1 w := Tryd.sizeOf9 w

/-- internal/bytealg.MaxLen holds some number. -/
def MaxAt (w : World) : Prop := ∃ m, w.cell? ⟨2, 0, none⟩ = some (.int .i64 m)
theorem MaxAt.below {w w' : World} (h : MaxAt w) (hb : Below w.heap.size w w') : MaxAt w' := by
  obtain ⟨m, hm⟩ := h
  exact ⟨m, by rw [hb.cell (p := ⟨2, 0, none⟩) (World.block_lt_of_cell? _ _ hm)]; exact hm⟩

theorem split_v (l x : List UInt8) (xs : List (List UInt8)) (h : partsOf l = x :: xs) (w : World) (hm : MaxAt w) (hl : l.length ≤ 16777216) :
    Calls Tryd.prog 59 #[.string (B l), .string { data := #[45] }] w fun e w' => ∃ b o cap, e = .returned (.slice (some ⟨b, o, none⟩) (xs.length + 1) cap) ∧ View w' (.slice (some ⟨b, o, none⟩) (xs.length + 1) cap) (x :: xs) ∧ Below w.heap.size w w' := by
  obtain ⟨m, hm⟩ := hm
  refine (Tryd.strings_Split (B l) ⟨#[45]⟩ m w (by rw [B_size]; omega) hm (by decide)).mono ?_
  rintro e w' ⟨rfl, rfl⟩
  obtain ⟨h1, h2⟩ := split_parts l
  rw [h] at h1 h2
  rw [h2]
  exact ⟨_, _, _, rfl, View.of_alloc w _ _ _ h1 _ rfl, (Below.refl _ w).alloc (Nat.le_refl _) _⟩

set_option maxHeartbeats 1600000 in
theorem extended_l (r t : List UInt8) (w : World) (hM : MaxAt w) (hr : r.length ≤ 16777216) (ht : t.length ≤ 16777216) :
    Calls Tryd.prog 24 #[.string (B r), .string (B t)] w fun e w' => e = .returned (.bool (extP r t)) ∧ Below w.heap.size w w' := by
  have hrl : (lowL r).length ≤ 16777216 := by rw [lowL_len]; exact hr
  have htl : (lowL t).length ≤ 16777216 := by rw [lowL_len]; exact ht
  obtain ⟨x, rs, hrs⟩ := List.exists_cons_of_ne_nil (partsOf_ne (lowL r))
  obtain ⟨y, ts, hts⟩ := List.exists_cons_of_ne_nil (partsOf_ne (lowL t))
  have LOWR := Lib.hid (fun (w : World) => lower_l r w (by unfold maxLen; omega))
  have LOWT := Lib.hid (fun (w : World) => lower_l t w (by unfold maxLen; omega))
  have PARR := Lib.hid (fun (w : World) (h : MaxAt w) => split_v _ _ _ hrs w h hrl)
  have HM := Lib.hid hM
  clear hM
  have PART := Lib.hid (fun (w : World) (h : MaxAt w) => split_v _ _ _ hts w h htl)
  have TAIL := fun b o n cap (hn : 1 ≤ n) wx => run_tail (P := Tryd.prog) 41 9 Tryd.underlying41 sizeStr2 b o n cap hn wx
  have HX := Lib.hid (extP_cons hrs hts)
  clear hrs hts
  have QX : ∃ b1, (x == [42]) = b1 ∧ (b1 = true ↔ x = [42]) := ⟨_, rfl, beq_iff_eq⟩
  have QY : ∃ b2, (x == y) = b2 ∧ (b2 = true ↔ x = y) := ⟨_, rfl, beq_iff_eq⟩
  obtain ⟨q1, e1, I1⟩ := QX
  obtain ⟨q2, e2, I2⟩ := QY
  have J1 := Lib.hid I1
  have J2 := Lib.hid I2
  clear I1 I2
  go_enter Tryd.func24, Tryd.ntmps24
  go_wp2_with (first | (go_at_call 34; with_reducible refine (LOWR.out _).mono ?_; rintro e w1 ⟨rfl, hx1⟩) | (go_at_call 59; with_reducible refine (PARR.out _ (HM.out.below (by assumption))).mono ?_; rintro e w2 ⟨b1, o1, c1, rfl, hv1, hx2⟩; have hb2 := hx1.trans (hx2.mono hx1.size); clear hx1 hx2) | (go_at_call 34; with_reducible refine (LOWT.out _).mono ?_; rintro e w3 ⟨rfl, hx3⟩; have hv2 := hv1.below hx3; have hb3 := hb2.trans (hx3.mono hb2.size); clear hx3 hb2 hv1) | (go_at_call 59; with_reducible refine (PART.out _ (HM.out.below (by assumption))).mono ?_; rintro e w4 ⟨b2, o2, c2, rfl, hu, hx4⟩; have hv := hv2.below hx4; have hb := hb3.trans (hx4.mono hb3.size); have hh1 := hv.head; have hh2 := hu.head; obtain ⟨_, hc1, hd1⟩ := hh1; obtain ⟨_, hc2, hd2⟩ := hh2; clear hx4 hb3 hv2; have HV := Lib.hid hv; have HU := Lib.hid hu; clear hv hu) | fail)
  cases q1 <;> cases q2 <;> (go_quiet (fail); go_wp2_with fail)
  all_goals first
    | (go_ret; exact ⟨by rw [HX.out, if_pos ⟨fun h => absurd (J1.out.2 h) (by simp), fun h => absurd (J2.out.2 h) (by simp)⟩] <;> rfl, below_drewN hb _⟩)
    | (go_quiet (fail)
       go_wp2_with fail
       have HE : Hid (extP r t = extLoop rs ts) := Lib.hid (by rw [HX.out, if_neg (fun h => by first | exact h.1 (J1.out.1 rfl) | exact h.2 (J2.out.1 rfl) | exact h.1 (J1.out.1 trivial) | exact h.2 (J2.out.1 trivial))])
       have HB := Lib.hid hb
       clear HX J1 J2 hb hc1 hd1 hc2 hd2 LOWR LOWT PARR PART
       go_loopw [5, 6] (fun va vb wr => ∃ rs' ts', View wr va rs' ∧ View wr vb ts' ∧ Hid (extP r t = extLoop rs' ts') ∧ Below w.heap.size w wr) (fun va vb _ => lenV va + lenV vb)
       case atStart => exact ⟨rs, ts, HV.out.tail.below (below_drewN (below_drewN (Below.refl _ _) _) _), HU.out.tail.below (below_drewN (below_drewN (Below.refl _ _) _) _), HE, below_drewN (below_drewN HB.out _) _⟩
       case round =>
         clear HV HU HB HE
         obtain ⟨rs', ts', hv, hu, HE, hb⟩ := hrel
         rcases rs' with _ | ⟨p, rs'⟩
         · obtain ⟨b3, o3, c3, rfl⟩ := hv.empty
           rw [extLoop_nil] at HE
           go_wp2_with fail
           go_ret
           exact ⟨by rw [HE.out] <;> rfl, hb⟩
         obtain ⟨b3, o3, c3, rfl, hc3, hd3, hv2⟩ := hv.cons
         have HV := Lib.hid hv
         have HV2 := Lib.hid hv2
         clear hv hv2
         cases e1 : (p == [42]) with
         | true =>
           have HE2 : Hid (extP r t = extLoop rs' ts') := Lib.hid (by rw [HE.out, extLoop_star (beq_iff_eq.1 e1)])
           have HU := Lib.hid hu
           have hul := hu.len
           obtain ⟨b4, o4, c4, rfl⟩ := hu.form
           clear HE hu HV
           go_wp2_with fail
           go_roundw
           case rel => exact ⟨rs', ts', HV2.out, HU.out, HE2, hb⟩
           case measure => rw [HV2.out.len]; simp [lenV]
         | false =>
           have n1 := beq_eq_false_iff_ne.1 e1
           rcases ts' with _ | ⟨q, ts'⟩
           · obtain ⟨b4, o4, c4, rfl⟩ := hu.empty
             rw [extLoop_end n1] at HE
             go_wp2_with fail
             go_ret
             exact ⟨by rw [HE.out] <;> rfl, hb⟩
           obtain ⟨b4, o4, c4, rfl, hc4, hd4, hu2⟩ := hu.cons
           have HU2 := Lib.hid hu2
           clear hu hu2
           have t4 : (((ts'.length : Nat) : Int) + 1 == 0) = false := beq_eq_false_iff_ne.2 (by omega)
           cases e2 : (p == q) with
           | true =>
             have HE2 : Hid (extP r t = extLoop rs' ts') := Lib.hid (by rw [HE.out, extLoop_same n1 (beq_iff_eq.1 e2)])
             clear HE HV n1
             go_wp2_with fail
             go_quiet (fail)
             go_wp2_with fail
             go_quiet (fail)
             go_wp2_with fail
             go_roundw
             case rel => exact ⟨rs', ts', HV2.out.below (below_drewN (below_drewN (Below.refl _ _) _) _), HU2.out.below (below_drewN (below_drewN (Below.refl _ _) _) _), HE2, below_drewN (below_drewN hb _) _⟩
             case measure => rw [HV2.out.len, HU2.out.len]; simp [lenV]; omega
           | false =>
             have n2 := beq_eq_false_iff_ne.1 e2
             cases e3 : (((q.length : Nat) : Int) == 1) with
             | true =>
               have HE2 : Hid (extP r t = false) := Lib.hid (by rw [HE.out, extLoop_one n1 n2 (by have := beq_iff_eq.1 e3; omega)])
               clear HE HV n1 n2
               go_wp2_with fail
               go_quiet (fail)
               go_wp2_with fail
               go_ret
               exact ⟨by rw [HE2.out] <;> rfl, below_drewN hb _⟩
             | false =>
               have HE2 : Hid (extP r t = extLoop (p :: rs') ts') := Lib.hid (by rw [HE.out, extLoop_pass n1 n2 (by have := beq_eq_false_iff_ne.1 e3; omega)])
               clear HE n1 n2
               go_wp2_with fail
               go_quiet (fail)
               go_wp2_with fail
               go_roundw
               case rel => exact ⟨p :: rs', ts', HV.out.below (below_drewN (Below.refl _ _) _), HU2.out.below (below_drewN (Below.refl _ _) _), HE2, below_drewN hb _⟩
               case measure => rw [HU2.out.len]; simp [lenV])
end Go.Proofs.YtfjcbodkjjmagaaDoor
