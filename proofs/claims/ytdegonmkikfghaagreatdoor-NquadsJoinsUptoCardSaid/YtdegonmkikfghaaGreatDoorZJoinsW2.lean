/-
  tesseralaw09.NquadsJoins: the walk. By an AI agent.
-/
import Derived.Test.YtdegonmkikfghaaGreatDoorZJoinsW
namespace Go.Proofs.YtdegonmkikfghaaGreatDoor
open Go.RowKit
set_option maxRecDepth 1000000
theorem two_new (u : World) (x y : Value) (T : TypeId) : (u.alloc (.cells #[x, y] T)).drew.cell? ⟨u.heap.size, 0, none⟩ = some x /\ (u.alloc (.cells #[x, y] T)).drew.cell? ⟨u.heap.size, 1, none⟩ = some y :=
 ⟨by show (u.alloc (.cells #[x, y] T)).cell? ⟨u.heap.size, 0, none⟩ = some x; rw [World.cell?_alloc_new]; rfl, by show (u.alloc (.cells #[x, y] T)).cell? ⟨u.heap.size, 1, none⟩ = some y; rw [World.cell?_alloc_new]; rfl⟩
theorem two_kept {u w' : World} {x y : Value} {T : TypeId} {n : Nat} (hb : Below n (u.alloc (.cells #[x, y] T)).drew w') (hn : n = (u.alloc (.cells #[x, y] T)).drew.heap.size := by rfl) : w'.cell? ⟨u.heap.size, 0, none⟩ = some x /\ w'.cell? ⟨u.heap.size, 1, none⟩ = some y := by
 subst hn
 obtain ⟨h1, h2⟩ := two_new u x y T
 exact ⟨by rw [hb.cell (World.block_lt_of_cell? _ _ h1)]; exact h1, by rw [hb.cell (World.block_lt_of_cell? _ _ h2)]; exact h2⟩
set_option maxHeartbeats 4000000 in
theorem joins_bad2 (s t : List UInt8) (a : List QuadL) (p : Nat) (c : Int) (w : World) (J : JIn s t w) (hn : s.length + t.length <= 1048574) (hp : parseF s = .inl a) (hq : parseF t = .inr (p, c)) (hpt : p <= t.length) :
   Calls Tryz.prog 10 #[.string (B s), .string (B t)] w fun e w' => e = .returned (.bool true) /\ Below w.heap.size w w' := by
 have HP := Lib.hid hp
 have HQ := Lib.hid hq
 have HPQ := Lib.hid (two_bad2 hp hq)
 have HJ := Lib.hid J
 have ha := parse_few hp
 have W0 : IntKind.i64.wrap ((s.length : Int) + (t.length : Int)) = (s.length : Int) + (t.length : Int) := IntWalk.i64_in _ (by omega)
 have d0 : decide ((33554432 : Int) < (s.length : Int) + (t.length : Int)) = false := decide_eq_false (by omega)
 have hcat := cat_two s t
 have Wa : IntKind.i64.wrap ((a.length : Int) + 1) = (a.length : Int) + 1 := IntWalk.i64_in _ (by omega)
 clear J hp hq
 go_enter Tryz.func10, Tryz.ntmps10
 go_wp2_with (first
   | (go_at_call 29; (with_reducible refine HJ.out.aw.mono ?_); rintro e w2 ⟨rfl, hb2⟩; have HB2 := Lib.hid hb2; obtain ⟨cap, C, hc, hcv, hr⟩ := HJ.out.cs w2; have HC := Lib.hid hc; have HR := Lib.hid hr; clear hb2 hc hr)
   | (go_at_call 25; (with_reducible refine (HJ.out.ps _ _ _ HB2.out HC.out HR.out).mono ?_); rintro e w3 ⟨hP, hb3⟩; rw [HP.out] at hP; obtain ⟨va, rfl, hF⟩ := hP; obtain ⟨pa, ca, rfl⟩ := hF.view.form; have HVa := Lib.hid hF.view; clear hF; have HB3 := Lib.hid (HB2.out.trans (hb3.mono HB2.out.size)); obtain ⟨cap2, C2, hc2, hcv2, hr2⟩ := HJ.out.ct w3; have HC2 := Lib.hid hc2; have HR2 := Lib.hid hr2; clear hb3 hc2 hr2 hcv)
   | (go_at_call 25; (with_reducible refine (HJ.out.pt _ _ _ HB3.out HC2.out HR2.out).mono ?_); rintro e w4 ⟨hP, hb4⟩; rw [HQ.out] at hP; obtain ⟨evb, rfl, hF⟩ := hP; have hv := hF; obtain ⟨eb, rfl, _, _⟩ := hv; have HV := Lib.hid hF; clear hF; have HB4 := Lib.hid (HB3.out.trans (hb4.mono HB3.out.size)); have HVx := Lib.hid (HV.out); obtain ⟨cap3, C3, hc3, hcv3, hr3⟩ := HJ.out.cst w4; have HC3 := Lib.hid hc3; have HR3 := Lib.hid hr3; clear hb4 hc3 hr3 hcv2)
   | (go_at_call 25; (with_reducible refine (HJ.out.pst _ _ _ HB4.out HC3.out HR3.out).mono ?_); rintro e w5 ⟨hP, hb5⟩; rw [HPQ.out] at hP; obtain ⟨evc, rfl, hG⟩ := hP; have hv5 := hG; obtain ⟨ec, rfl, _, _⟩ := hv5; have HV3 := Lib.hid hG; clear hG; have HB5 := Lib.hid (HB4.out.trans (hb5.mono HB4.out.size)); have HVw := Lib.hid (HVx.out.below hb5); clear hb5 hcv3))
 go_loopw [11, 12] (fun n i wr => ∃ k e : Nat, i = .int .i64 (k : Int) /\ n = .int .i64 (e : Int) /\ k <= t.length /\ e <= a.length + 1 + k /\ Below w5.heap.size w5 wr) (fun _ i _ => t.length - (intOf i).toNat)
 case atStart => exact ⟨0, a.length + 1, rfl, by go_num, Nat.zero_le _, Nat.le_refl _, by first | exact Below.refl _ _ | exact (Below.refl _ _).drew⟩
 case round =>
   obtain ⟨k, e, rfl, rfl, hk, he, hb⟩ := hrel
   have HBr := Lib.hid hb
   clear hb
   by_cases hkt : k < t.length
   · have c1 : decide ((k : Int) < (t.length : Int)) = true := decide_eq_true (by omega)
     have m0 : 0 <= (k : Int) := by omega
     have m1 : (k : Int) < (t.length : Int) := by omega
     have W1 : IntKind.i64.wrap ((k : Int) + 1) = (k : Int) + 1 := IntWalk.i64_in _ (by omega)
     have W2 : IntKind.i64.wrap ((e : Int) + 1) = (e : Int) + 1 := IntWalk.i64_in _ (by omega)
     have q1 : ∀ d : UInt8, t[k] = d -> ((t[k].toNat : Int) == (d.toNat : Int)) = true := fun d h => by rw [h]; simp
     by_cases h10 : t[k] = 10
     · have e1 : ((t[k].toNat : Int) == 10) = true := q1 10 h10
       clear q1 h10
       go_wp2_with fail
       go_roundw
       case rel => exact ⟨k + 1, e + 1, by go_num, by go_num, by omega, by omega, HBr.out⟩
       case measure => simp [intOf]; omega
     have e1 : ((t[k].toNat : Int) == 10) = false := beq_eq_false_iff_ne.2 (bne_iff_ne.1 (byte_nei (d := 10) h10))
     by_cases h13 : t[k] = 13
     · have e2 : ((t[k].toNat : Int) == 13) = true := q1 13 h13
       clear q1 h10 h13
       go_wp2_with fail
       go_roundw
       case rel => exact ⟨k + 1, e + 1, by go_num, by go_num, by omega, by omega, HBr.out⟩
       case measure => simp [intOf]; omega
     have e2 : ((t[k].toNat : Int) == 13) = false := beq_eq_false_iff_ne.2 (bne_iff_ne.1 (byte_nei (d := 13) h13))
     clear q1 h10 h13
     go_wp2_with fail
     go_roundw
     case rel => exact ⟨k + 1, e, by go_num, rfl, by omega, by omega, HBr.out⟩
     case measure => simp [intOf]; omega
   · have c1 : decide ((k : Int) < (t.length : Int)) = false := decide_eq_false (by omega)
     have c2 : decide (k < t.length) = false := decide_eq_false (by omega)
     have c3 : decide ((1048576 : Int) < (e : Int)) = false := decide_eq_false (by omega)
     have c4 : decide (1048576 < e) = false := decide_eq_false (by omega)
     clear hkt
     have HVr := Lib.hid (HVw.out.below HBr.out)
     have W3 : IntKind.i64.wrap ((p : Int) + (s.length : Int)) = (p : Int) + (s.length : Int) := IntWalk.i64_in _ (by omega)
     have W4 : IntKind.i64.wrap ((p : Int) + (s.length : Int) + 1) = (p : Int) + (s.length : Int) + 1 := IntWalk.i64_in _ (by omega)
     have qe : ((s.length : Int) + 1 + (p : Int) == (p : Int) + (s.length : Int) + 1) = true := beq_iff_eq.2 (by omega)
     go_wp2_with (first | (go_at_call 20; (with_reducible refine (HJ.out.sn _ _ _ _ HVr.out).mono ?_); rintro e w6 ⟨rfl, hb6⟩; have HW6 := Lib.hid (HBr.out.trans (hb6.mono HBr.out.size)); clear hb6))
     go_region_held3 (fun w' => w'.cell? ⟨w6.heap.size, 0, none⟩ = some (.int .i64 ((p : Int) + (s.length : Int) + 1)) /\ w'.cell? ⟨w6.heap.size, 1, none⟩ = some (.int .i64 c)) (first | exact two_new _ _ _ _ | exact two_kept hb7 | exact (two_new _ _ _ _)) (first | (go_at_call 20; (with_reducible refine (HJ.out.sn _ (s.length + 1 + p) c _ ?hv).mono ?_); (case hv => first | exact HV3.out.below (HW6.out.alloc HW6.out.size _).drew | exact HV3.out.below (HW6.out.alloc HW6.out.size _) | exact HV3.out.below ((HW6.out.alloc HW6.out.size _).setCell (p := ⟨_, 0, none⟩) HW6.out.size _)); rintro e w7 ⟨rfl, hb7⟩))
     go_wp2_with fail
     go_ret
     have HX := (HW6.out.alloc HW6.out.size (.cells #[.int .i64 ((p : Int) + (s.length : Int) + 1), .int .i64 c] 42)).drew
     first | exact ⟨rfl, HB5.out.trans ((HX.trans (hb7.mono HX.size)).mono HB5.out.size)⟩ | exact ⟨rfl, (HB5.out.trans ((HX.trans (hb7.mono HX.size)).mono HB5.out.size)).drew⟩
end Go.Proofs.YtdegonmkikfghaaGreatDoor
namespace Go.Proofs.YtdegonmkikfghaaGreatDoor
open Go.RowKit
set_option maxRecDepth 1000000
set_option maxHeartbeats 4000000 in
theorem joins_ok (s t : List UInt8) (a b : List QuadL) (w : World) (J : JIn s t w) (hn : s.length + t.length <= 1048574) (hp : parseF s = .inl a) (hq : parseF t = .inl b) :
   Calls Tryz.prog 10 #[.string (B s), .string (B t)] w fun e w' => e = .returned (.bool true) /\ Below w.heap.size w w' := by
 have HP := Lib.hid hp
 have HQ := Lib.hid hq
 have HPQ := Lib.hid (two_ok hp hq)
 have HJ := Lib.hid J
 have ha := parse_few hp
 have W0 : IntKind.i64.wrap ((s.length : Int) + (t.length : Int)) = (s.length : Int) + (t.length : Int) := IntWalk.i64_in _ (by omega)
 have d0 : decide ((33554432 : Int) < (s.length : Int) + (t.length : Int)) = false := decide_eq_false (by omega)
 have hcat := cat_two s t
 have Wa : IntKind.i64.wrap ((a.length : Int) + 1) = (a.length : Int) + 1 := IntWalk.i64_in _ (by omega)
 have hbl := parse_few hq
 have hu : (unionS a b).length <= a.length + b.length := by
   unfold unionS
   rw [both_rise (parse_rise hp) (parse_rise hq), if_pos rfl]
   exact mergeF_len _ _ _ _ a b (Nat.le_refl _)
 have UN : Hid (∀ (u : World) (va vb : Value), QView u va a -> QView u vb b -> Calls Tryz.prog 33 #[va, vb] u fun e w' => ∃ v, e = .returned (.tuple #[v, .int .i64 0]) /\ QView w' v (unionS a b) /\ Below u.heap.size u w') := Lib.hid (fun u va vb h0 h1 => by
   refine (term_union_l a b va vb u h0 h1 (by omega) (by omega)).mono ?_
   rintro e w' ⟨v, rfl, h2, h3⟩
   exact ⟨v, by rw [show twoE a b = 0 by unfold twoE; rw [both_rise (parse_rise hp) (parse_rise hq)]; rfl], h2.view, h3⟩)
 have SQ := Lib.hid (fun (u : World) (v0 v1 : Value) (h0 : QView u v0 (unionS a b)) (h1 : QView u v1 (unionS a b)) => sameQuads_t (unionS a b) v0 v1 u h0 h1 (by omega))
 clear hbl hu
 clear J hp hq
 go_enter Tryz.func10, Tryz.ntmps10
 go_wp2_with (first
   | (go_at_call 29; (with_reducible refine HJ.out.aw.mono ?_); rintro e w2 ⟨rfl, hb2⟩; have HB2 := Lib.hid hb2; obtain ⟨cap, C, hc, hcv, hr⟩ := HJ.out.cs w2; have HC := Lib.hid hc; have HR := Lib.hid hr; clear hb2 hc hr)
   | (go_at_call 25; (with_reducible refine (HJ.out.ps _ _ _ HB2.out HC.out HR.out).mono ?_); rintro e w3 ⟨hP, hb3⟩; rw [HP.out] at hP; obtain ⟨va, rfl, hF⟩ := hP; obtain ⟨pa, ca, rfl⟩ := hF.view.form; have HVa := Lib.hid hF.view; clear hF; have HB3 := Lib.hid (HB2.out.trans (hb3.mono HB2.out.size)); obtain ⟨cap2, C2, hc2, hcv2, hr2⟩ := HJ.out.ct w3; have HC2 := Lib.hid hc2; have HR2 := Lib.hid hr2; clear hb3 hc2 hr2 hcv)
   | (go_at_call 25; (with_reducible refine (HJ.out.pt _ _ _ HB3.out HC2.out HR2.out).mono ?_); rintro e w4 ⟨hP, hb4⟩; rw [HQ.out] at hP; obtain ⟨vb, rfl, hF⟩ := hP; obtain ⟨pb, cb, rfl⟩ := hF.view.form; have HVb := Lib.hid hF.view; clear hF; have HB4 := Lib.hid (HB3.out.trans (hb4.mono HB3.out.size)); have HVa4 := Lib.hid (HVa.out.below hb4); obtain ⟨cap3, C3, hc3, hcv3, hr3⟩ := HJ.out.cst w4; have HC3 := Lib.hid hc3; have HR3 := Lib.hid hr3; clear hb4 hc3 hr3 hcv2)
   | (go_at_call 25; (with_reducible refine (HJ.out.pst _ _ _ HB4.out HC3.out HR3.out).mono ?_); rintro e w5 ⟨hP, hb5⟩; rw [HPQ.out] at hP; obtain ⟨vc, rfl, hF⟩ := hP; obtain ⟨pc, cc, rfl⟩ := hF.view.form; have HVc := Lib.hid hF.view; clear hF; have HB5 := Lib.hid (HB4.out.trans (hb5.mono HB4.out.size)); have HVa5 := Lib.hid (HVa4.out.below hb5); have HVb5 := Lib.hid (HVb.out.below hb5); clear hb5 hcv3))
 go_loopw [11, 12] (fun n i wr => ∃ k e : Nat, i = .int .i64 (k : Int) /\ n = .int .i64 (e : Int) /\ k <= t.length /\ e <= a.length + 1 + k /\ Below w5.heap.size w5 wr) (fun _ i _ => t.length - (intOf i).toNat)
 case atStart => exact ⟨0, a.length + 1, rfl, by go_num, Nat.zero_le _, Nat.le_refl _, by first | exact Below.refl _ _ | exact (Below.refl _ _).drew⟩
 case round =>
   obtain ⟨k, e, rfl, rfl, hk, he, hb⟩ := hrel
   have HBr := Lib.hid hb
   clear hb
   by_cases hkt : k < t.length
   · have c1 : decide ((k : Int) < (t.length : Int)) = true := decide_eq_true (by omega)
     have m0 : 0 <= (k : Int) := by omega
     have m1 : (k : Int) < (t.length : Int) := by omega
     have W1 : IntKind.i64.wrap ((k : Int) + 1) = (k : Int) + 1 := IntWalk.i64_in _ (by omega)
     have W2 : IntKind.i64.wrap ((e : Int) + 1) = (e : Int) + 1 := IntWalk.i64_in _ (by omega)
     have q1 : ∀ d : UInt8, t[k] = d -> ((t[k].toNat : Int) == (d.toNat : Int)) = true := fun d h => by rw [h]; simp
     by_cases h10 : t[k] = 10
     · have e1 : ((t[k].toNat : Int) == 10) = true := q1 10 h10
       clear q1 h10
       go_wp2_with fail
       go_roundw
       case rel => exact ⟨k + 1, e + 1, by go_num, by go_num, by omega, by omega, HBr.out⟩
       case measure => simp [intOf]; omega
     have e1 : ((t[k].toNat : Int) == 10) = false := beq_eq_false_iff_ne.2 (bne_iff_ne.1 (byte_nei (d := 10) h10))
     by_cases h13 : t[k] = 13
     · have e2 : ((t[k].toNat : Int) == 13) = true := q1 13 h13
       clear q1 h10 h13
       go_wp2_with fail
       go_roundw
       case rel => exact ⟨k + 1, e + 1, by go_num, by go_num, by omega, by omega, HBr.out⟩
       case measure => simp [intOf]; omega
     have e2 : ((t[k].toNat : Int) == 13) = false := beq_eq_false_iff_ne.2 (bne_iff_ne.1 (byte_nei (d := 13) h13))
     clear q1 h10 h13
     go_wp2_with fail
     go_roundw
     case rel => exact ⟨k + 1, e, by go_num, rfl, by omega, by omega, HBr.out⟩
     case measure => simp [intOf]; omega
   · have c1 : decide ((k : Int) < (t.length : Int)) = false := decide_eq_false (by omega)
     have c2 : decide (k < t.length) = false := decide_eq_false (by omega)
     have c3 : decide ((1048576 : Int) < (e : Int)) = false := decide_eq_false (by omega)
     have c4 : decide (1048576 < e) = false := decide_eq_false (by omega)
     clear hkt
     have HVar := Lib.hid (HVa5.out.below HBr.out)
     have HVbr := Lib.hid (HVb5.out.below HBr.out)
     have HVcr := Lib.hid (HVc.out.below HBr.out)
     go_wp2_with (first
       | (go_at_call 33; (with_reducible refine (UN.out _ _ _ HVar.out HVbr.out).mono ?_); rintro e w6 ⟨vu, rfl, ho, hb6⟩; obtain ⟨pu, cu, rfl⟩ := ho.form; have HU := Lib.hid ho; have HB6 := Lib.hid (HBr.out.trans (hb6.mono HBr.out.size)); have HVc6 := Lib.hid (HVcr.out.below hb6); clear ho hb6)
       | (go_at_call 27; (with_reducible refine (SQ.out _ _ _ HVc6.out HU.out).mono ?_); rintro e w7 ⟨rfl, hb7⟩; have HB7 := Lib.hid (HB6.out.trans (hb7.mono HB6.out.size)); clear hb7))
     go_ret
     exact ⟨rfl, HB5.out.trans (HB7.out.mono HB5.out.size)⟩
theorem joins_walk (s t : List UInt8) (w : World) (hT : TabAt w) (hM : MaxAt w) (hU : UtAt w) (hE : ErrType w) (hn : s.length + t.length <= 1048574) :
   Calls Tryz.prog 10 #[.string (B s), .string (B t)] w fun e w' => e = .returned (.bool true) /\ Below w.heap.size w w' := by
 have J := jin_l s t w hT hM hU hE (by omega)
 obtain ⟨x, hx⟩ : ∃ x, parseF s = x := ⟨_, rfl⟩
 obtain ⟨y, hy⟩ : ∃ y, parseF t = y := ⟨_, rfl⟩
 rcases x with a | ⟨p, c⟩
 · rcases y with b | ⟨p, c⟩
   · exact joins_ok s t a b w J hn hx hy
   · exact joins_bad2 s t a p c w J hn hx hy (parse_first hy).1
 · exact joins_bad1 s t p c w J (by omega) hx
end Go.Proofs.YtdegonmkikfghaaGreatDoor
