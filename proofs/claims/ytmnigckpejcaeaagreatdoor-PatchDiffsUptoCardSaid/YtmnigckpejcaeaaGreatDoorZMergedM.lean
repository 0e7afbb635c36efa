/-
  term.merged at quads: contract. By an AI agent.
-/
import Derived.Test.YtmnigckpejcaeaaGreatDoorZApp
import Derived.Test.YtmnigckpejcaeaaGreatDoorZLoadQ
import Derived.Test.YtmnigckpejcaeaaGreatDoorZCmp
import Derived.IntWalk
namespace Go.Proofs.YtmnigckpejcaeaaGreatDoor
open Go.RowKit
set_option maxRecDepth 100000
theorem compareQuads_mM (a b : QuadL) (w : World) : Calls Tryz.prog 61 #[.agg #[.int .i64 a.s.kind, .string (B a.s.text), .string (B a.s.type), .string (B a.s.lang), .int .i64 a.p.kind, .string (B a.p.text), .string (B a.p.type), .string (B a.p.lang), .int .i64 a.o.kind, .string (B a.o.text), .string (B a.o.type), .string (B a.o.lang), .int .i64 a.g.kind, .string (B a.g.text), .string (B a.g.type), .string (B a.g.lang)], .agg #[.int .i64 b.s.kind, .string (B b.s.text), .string (B b.s.type), .string (B b.s.lang), .int .i64 b.p.kind, .string (B b.p.text), .string (B b.p.type), .string (B b.p.lang), .int .i64 b.o.kind, .string (B b.o.text), .string (B b.o.type), .string (B b.o.lang), .int .i64 b.g.kind, .string (B b.g.text), .string (B b.g.type), .string (B b.g.lang)]] w fun e w' => e = .returned (.int .i64 (cmpQ a b)) /\ Below w.heap.size w w' := compareQuads_l a b w
theorem mergeF_nilM (f m s : Bool) : mergeF f m s [] [] = [] := by rw [mergeF]
set_option maxHeartbeats 4000000 in
theorem mergedM_l (as0 bs0 : List QuadL) (v0 v1 : Value) (w : World) (h0 : QView w v0 as0) (h1 : QView w v1 bs0) (n0 : as0.length <= 2097152) (n1 : bs0.length <= 2097152) :
   Calls Tryz.prog 132 #[v0, v1, .func (.func 61) #[] #[], .bool false, .bool true, .bool false] w fun e w' => ∃ v, e = .returned v /\ QOwn w.heap.size v (mergeF false true false as0 bs0) w' /\ Below w.heap.size w w' := by
 have CM := Lib.hid (fun (x y : QuadL) (u : World) => compareQuads_mM x y u)
 obtain ⟨pa, ca, hv0, hca, _⟩ := id h0
 obtain ⟨pb, cb, hv1, hcb, _⟩ := id h1
 subst hv0 hv1
 have HA := Lib.hid h0
 have HBV := Lib.hid h1
 clear h0 h1 hca hcb
 go_enter Tryz.func132, Tryz.ntmps132
 go_wp2_with fail
 go_loopw [0, 1, 13] (fun av bv ov wr => ∃ ls rs done, Hid (QView w av ls) /\ Hid (QView w bv rs) /\ Hid (QOwn w.heap.size ov done wr) /\ Hid (Below w.heap.size w wr) /\ done.length + ls.length + rs.length <= as0.length + bs0.length /\ Hid (ls.length <= 2097152 /\ rs.length <= 2097152) /\ Hid (mergeF false true false as0 bs0 = done ++ mergeF false true false ls rs)) (fun av bv _ _ => lenV av + lenV bv)
 case atStart => exact ⟨as0, bs0, [], HA, HBV, Lib.hid (QOwn.nil _ _), Lib.hid (Below.refl _ _), by simp, Lib.hid ⟨n0, n1⟩, Lib.hid rfl⟩
 case round =>
   obtain ⟨ls, rs, done, HVA, HVB, HO, HB, hlen, HL, HM⟩ := hrel
   clear HA HBV
   obtain ⟨l0, l1⟩ := HL.out
   rcases ls with _ | ⟨x, ls⟩
   · obtain ⟨ra, ca2, hav⟩ := HVA.out.empty
     rcases rs with _ | ⟨y, rs⟩
     · obtain ⟨rb, cb2, hbv⟩ := HVB.out.empty
       have HE : Hid (mergeF false true false as0 bs0 = done) := Lib.hid (by rw [HM.out, mergeF_nilM, List.append_nil])
       clear HVA HVB HM CM HL
       subst hav hbv
       go_wp2_with fail
       go_ret
       exact ⟨_, rfl, by rw [HE.out]; exact HO.out, HB.out⟩
     · have lb : rs.length <= 2097152 := by simp at l1; omega
       have pb1 : (0 : Int) < (rs.length : Int) + 1 := by omega
       have zb1 : ((rs.length : Int) + 1 == 0) = false := beq_eq_false_iff_ne.2 (by omega)
       obtain ⟨b2, o2, k2, hbv, hk2, hr2, HTB⟩ := HVB.out.cons
       have HR2 := Lib.hid hr2
       have HTB := Lib.hid HTB
       clear hr2
       have HN2 : Hid (mergeF false true false as0 bs0 = done ++ mergeF false true false [] rs) := Lib.hid (by rw [HM.out, mergeF_r]; simp)
       clear HM
       have T2 := run_tailQ b2 o2 (rs.length + 1) k2 (by omega)
       have HB5 := HB
       have HO5 := HO
       subst hav hbv
       go_wp2_with (fail)
       go_roundw
       case rel => exact ⟨[], rs, done, HVA, HTB, HO5, HB5, by simp at hlen ⊢; omega, Lib.hid ⟨by simp at l0 ⊢ <;> omega, by simp at l1 ⊢ <;> omega⟩, HN2⟩
       case measure =>
         have la2 : lenV (tailQ b2 o2 (rs.length + 1) k2) = rs.length := HTB.out.len
         simp only [la2]
         simp [lenV]
         try omega
   · rcases rs with _ | ⟨y, rs⟩
     · obtain ⟨rb, cb2, hbv⟩ := HVB.out.empty
       have la : ls.length <= 2097152 := by simp at l0; omega
       have pa1 : (0 : Int) < (ls.length : Int) + 1 := by omega
       have za1 : ((ls.length : Int) + 1 == 0) = false := beq_eq_false_iff_ne.2 (by omega)
       obtain ⟨b1, o1, k1, hav, hk1, hr1, HTA⟩ := HVA.out.cons
       have HR1 := Lib.hid hr1
       have HTA := Lib.hid HTA
       clear hr1
       have HN2 : Hid (mergeF false true false as0 bs0 = done ++ mergeF false true false ls []) := Lib.hid (by rw [HM.out, mergeF_l]; simp)
       clear HM
       have T1 := run_tailQ b1 o1 (ls.length + 1) k1 (by omega)
       have HB5 := HB
       have HO5 := HO
       subst hav hbv
       go_wp2_with (fail)
       go_roundw
       case rel => exact ⟨ls, [], done, HTA, HVB, HO5, HB5, by simp at hlen ⊢; omega, Lib.hid ⟨by simp at l0 ⊢ <;> omega, by simp at l1 ⊢ <;> omega⟩, HN2⟩
       case measure =>
         have la1 : lenV (tailQ b1 o1 (ls.length + 1) k1) = ls.length := HTA.out.len
         simp only [la1]
         simp [lenV]
         try omega
     · have la : ls.length <= 2097152 := by simp at l0; omega
       have pa1 : (0 : Int) < (ls.length : Int) + 1 := by omega
       have za1 : ((ls.length : Int) + 1 == 0) = false := beq_eq_false_iff_ne.2 (by omega)
       obtain ⟨b1, o1, k1, hav, hk1, hr1, HTA⟩ := HVA.out.cons
       have HR1 := Lib.hid hr1
       have HTA := Lib.hid HTA
       clear hr1
       have lb : rs.length <= 2097152 := by simp at l1; omega
       have pb1 : (0 : Int) < (rs.length : Int) + 1 := by omega
       have zb1 : ((rs.length : Int) + 1 == 0) = false := beq_eq_false_iff_ne.2 (by omega)
       obtain ⟨b2, o2, k2, hbv, hk2, hr2, HTB⟩ := HVB.out.cons
       have HR2 := Lib.hid hr2
       have HTB := Lib.hid HTB
       clear hr2
       have pab : (0 : Int) < (ls.length : Int) + 1 + ((rs.length : Int) + 1) := by omega
       obtain ⟨n, hn⟩ : ∃ n, cmpQ x y = n := ⟨_, rfl⟩
       have h3 := cmpQ_three x y
       rw [hn] at h3
       have CX := CM.out x y
       rw [hn] at CX
       have HN := Lib.hid hn
       have CM := Lib.hid CX
       clear CX hn
       rcases h3 with rfl | rfl | rfl
       · have HN2 : Hid (mergeF false true false as0 bs0 = done ++ mergeF false true false ls (y :: rs)) := Lib.hid (by rw [HM.out, mergeF_lt (by rw [HN.out]; decide)]; simp)
         clear HM
         have T1 := run_tailQ b1 o1 (ls.length + 1) k1 (by omega)
         subst hav hbv
         have RD1 : Hid (wr.drew.rangeAt b1 o1 (quadC x)) := Lib.hid (show wr.rangeAt b1 o1 (quadC x) from range_below HR1.out HB.out)
         have RD2 : Hid (wr.drew.rangeAt b2 o2 (quadC y)) := Lib.hid (show wr.rangeAt b2 o2 (quadC y) from range_below HR2.out HB.out)
         go_wp2_with fail
         refine region_still 7 (by kernel_rfl) (by kernel_rfl) ?_
         simp only [List.take_succ_cons, List.take_zero, List.drop_succ_cons, List.drop_zero]
         repeat (first | refine still_load_quad rfl (.tmp 31) rfl b1 o1 rfl x RD1.out ?_ | refine still_load_quad rfl (.tmp 34) rfl b2 o2 rfl y RD2.out ?_ | still_step)
         refine wpStill_nil ?_
         go_wp2_with (first | (go_at_call 61; (with_reducible refine (CM.out _).mono ?_); rintro e w3 ⟨rfl, hb3⟩; have HB5 := Lib.hid (HB.out.trans (((below_drewN _ 1).trans hb3).mono HB.out.size)); have HO5 := Lib.hid (HO.out.below ((below_drewN _ 1).trans hb3)); clear hb3))
         go_roundw
         case rel => exact ⟨ls, (y :: rs), done, HTA, HVB, HO5, HB5, by simp at hlen ⊢; omega, Lib.hid ⟨by simp at l0 ⊢ <;> omega, by simp at l1 ⊢ <;> omega⟩, HN2⟩
         case measure =>
           have la1 : lenV (tailQ b1 o1 (ls.length + 1) k1) = ls.length := HTA.out.len
           simp only [la1]
           simp [lenV]
           try omega
       · have HN2 : Hid (mergeF false true false as0 bs0 = (done ++ [x]) ++ mergeF false true false ls rs) := Lib.hid (by rw [HM.out, mergeF_eq HN.out]; simp)
         clear HM
         have T1 := run_tailQ b1 o1 (ls.length + 1) k1 (by omega)
         have T2 := run_tailQ b2 o2 (rs.length + 1) k2 (by omega)
         subst hav hbv
         have RD1 : Hid (wr.drew.rangeAt b1 o1 (quadC x)) := Lib.hid (show wr.rangeAt b1 o1 (quadC x) from range_below HR1.out HB.out)
         have RD2 : Hid (wr.drew.rangeAt b2 o2 (quadC y)) := Lib.hid (show wr.rangeAt b2 o2 (quadC y) from range_below HR2.out HB.out)
         go_wp2_with fail
         refine region_still 7 (by kernel_rfl) (by kernel_rfl) ?_
         simp only [List.take_succ_cons, List.take_zero, List.drop_succ_cons, List.drop_zero]
         repeat (first | refine still_load_quad rfl (.tmp 31) rfl b1 o1 rfl x RD1.out ?_ | refine still_load_quad rfl (.tmp 34) rfl b2 o2 rfl y RD2.out ?_ | still_step)
         refine wpStill_nil ?_
         go_wp2_with (first | (go_at_call 61; (with_reducible refine (CM.out _).mono ?_); rintro e w3 ⟨rfl, hb3⟩; have HB5 := Lib.hid (HB.out.trans (((below_drewN _ 1).trans hb3).mono HB.out.size)); have HO5 := Lib.hid (HO.out.below ((below_drewN _ 1).trans hb3)); clear hb3) | (refine wpList_load_quad rfl (.tmp 51) rfl b1 o1 rfl x (range_below HR1.out HB5.out) ?_) | (at_builtin; refine wpList_append_quad rfl (.tmp 49) (.tmp 53) rfl w.heap.size _ done rfl _ HO5.out x 56 rfl rfl (by omega) w HB5.out HB5.out.size ?_; intro v6 w6 ho6 hb6; have HO6 := Lib.hid ho6; have HB6 := Lib.hid hb6; clear ho6 hb6))
         go_roundw
         case rel => exact ⟨ls, rs, done ++ [x], HTA, HTB, HO6, HB6, by simp at hlen ⊢; omega, Lib.hid ⟨by simp at l0 ⊢ <;> omega, by simp at l1 ⊢ <;> omega⟩, HN2⟩
         case measure =>
           have la1 : lenV (tailQ b1 o1 (ls.length + 1) k1) = ls.length := HTA.out.len
           have la2 : lenV (tailQ b2 o2 (rs.length + 1) k2) = rs.length := HTB.out.len
           simp only [la1, la2]
           simp [lenV]
           try omega
       · have HN2 : Hid (mergeF false true false as0 bs0 = done ++ mergeF false true false (x :: ls) rs) := Lib.hid (by rw [HM.out, mergeF_gt (by rw [HN.out]; decide)]; simp)
         clear HM
         have T2 := run_tailQ b2 o2 (rs.length + 1) k2 (by omega)
         subst hav hbv
         have RD1 : Hid (wr.drew.rangeAt b1 o1 (quadC x)) := Lib.hid (show wr.rangeAt b1 o1 (quadC x) from range_below HR1.out HB.out)
         have RD2 : Hid (wr.drew.rangeAt b2 o2 (quadC y)) := Lib.hid (show wr.rangeAt b2 o2 (quadC y) from range_below HR2.out HB.out)
         go_wp2_with fail
         refine region_still 7 (by kernel_rfl) (by kernel_rfl) ?_
         simp only [List.take_succ_cons, List.take_zero, List.drop_succ_cons, List.drop_zero]
         repeat (first | refine still_load_quad rfl (.tmp 31) rfl b1 o1 rfl x RD1.out ?_ | refine still_load_quad rfl (.tmp 34) rfl b2 o2 rfl y RD2.out ?_ | still_step)
         refine wpStill_nil ?_
         go_wp2_with (first | (go_at_call 61; (with_reducible refine (CM.out _).mono ?_); rintro e w3 ⟨rfl, hb3⟩; have HB5 := Lib.hid (HB.out.trans (((below_drewN _ 1).trans hb3).mono HB.out.size)); have HO5 := Lib.hid (HO.out.below ((below_drewN _ 1).trans hb3)); clear hb3))
         go_roundw
         case rel => exact ⟨(x :: ls), rs, done, HVA, HTB, HO5, HB5, by simp at hlen ⊢; omega, Lib.hid ⟨by simp at l0 ⊢ <;> omega, by simp at l1 ⊢ <;> omega⟩, HN2⟩
         case measure =>
           have la2 : lenV (tailQ b2 o2 (rs.length + 1) k2) = rs.length := HTB.out.len
           simp only [la2]
           simp [lenV]
           try omega
end Go.Proofs.YtmnigckpejcaeaaGreatDoor
namespace Go.Proofs.YtmnigckpejcaeaaGreatDoor
open Go.RowKit
set_option maxRecDepth 100000
theorem compareQuads_mD (a b : QuadL) (w : World) : Calls Tryz.prog 61 #[.agg #[.int .i64 a.s.kind, .string (B a.s.text), .string (B a.s.type), .string (B a.s.lang), .int .i64 a.p.kind, .string (B a.p.text), .string (B a.p.type), .string (B a.p.lang), .int .i64 a.o.kind, .string (B a.o.text), .string (B a.o.type), .string (B a.o.lang), .int .i64 a.g.kind, .string (B a.g.text), .string (B a.g.type), .string (B a.g.lang)], .agg #[.int .i64 b.s.kind, .string (B b.s.text), .string (B b.s.type), .string (B b.s.lang), .int .i64 b.p.kind, .string (B b.p.text), .string (B b.p.type), .string (B b.p.lang), .int .i64 b.o.kind, .string (B b.o.text), .string (B b.o.type), .string (B b.o.lang), .int .i64 b.g.kind, .string (B b.g.text), .string (B b.g.type), .string (B b.g.lang)]] w fun e w' => e = .returned (.int .i64 (cmpQ a b)) /\ Below w.heap.size w w' := compareQuads_l a b w
theorem mergeF_nilD (f m s : Bool) : mergeF f m s [] [] = [] := by rw [mergeF]
set_option maxHeartbeats 4000000 in
theorem mergedD_l (as0 bs0 : List QuadL) (v0 v1 : Value) (w : World) (h0 : QView w v0 as0) (h1 : QView w v1 bs0) (n0 : as0.length <= 2097152) (n1 : bs0.length <= 2097152) :
   Calls Tryz.prog 132 #[v0, v1, .func (.func 61) #[] #[], .bool true, .bool false, .bool false] w fun e w' => ∃ v, e = .returned v /\ QOwn w.heap.size v (mergeF true false false as0 bs0) w' /\ Below w.heap.size w w' := by
 have CM := Lib.hid (fun (x y : QuadL) (u : World) => compareQuads_mD x y u)
 obtain ⟨pa, ca, hv0, hca, _⟩ := id h0
 obtain ⟨pb, cb, hv1, hcb, _⟩ := id h1
 subst hv0 hv1
 have HA := Lib.hid h0
 have HBV := Lib.hid h1
 clear h0 h1 hca hcb
 go_enter Tryz.func132, Tryz.ntmps132
 go_wp2_with fail
 go_loopw [0, 1, 13] (fun av bv ov wr => ∃ ls rs done, Hid (QView w av ls) /\ Hid (QView w bv rs) /\ Hid (QOwn w.heap.size ov done wr) /\ Hid (Below w.heap.size w wr) /\ done.length + ls.length + rs.length <= as0.length + bs0.length /\ Hid (ls.length <= 2097152 /\ rs.length <= 2097152) /\ Hid (mergeF true false false as0 bs0 = done ++ mergeF true false false ls rs)) (fun av bv _ _ => lenV av + lenV bv)
 case atStart => exact ⟨as0, bs0, [], HA, HBV, Lib.hid (QOwn.nil _ _), Lib.hid (Below.refl _ _), by simp, Lib.hid ⟨n0, n1⟩, Lib.hid rfl⟩
 case round =>
   obtain ⟨ls, rs, done, HVA, HVB, HO, HB, hlen, HL, HM⟩ := hrel
   clear HA HBV
   obtain ⟨l0, l1⟩ := HL.out
   rcases ls with _ | ⟨x, ls⟩
   · obtain ⟨ra, ca2, hav⟩ := HVA.out.empty
     rcases rs with _ | ⟨y, rs⟩
     · obtain ⟨rb, cb2, hbv⟩ := HVB.out.empty
       have HE : Hid (mergeF true false false as0 bs0 = done) := Lib.hid (by rw [HM.out, mergeF_nilD, List.append_nil])
       clear HVA HVB HM CM HL
       subst hav hbv
       go_wp2_with fail
       go_ret
       exact ⟨_, rfl, by rw [HE.out]; exact HO.out, HB.out⟩
     · have lb : rs.length <= 2097152 := by simp at l1; omega
       have pb1 : (0 : Int) < (rs.length : Int) + 1 := by omega
       have zb1 : ((rs.length : Int) + 1 == 0) = false := beq_eq_false_iff_ne.2 (by omega)
       obtain ⟨b2, o2, k2, hbv, hk2, hr2, HTB⟩ := HVB.out.cons
       have HR2 := Lib.hid hr2
       have HTB := Lib.hid HTB
       clear hr2
       have HN2 : Hid (mergeF true false false as0 bs0 = done ++ mergeF true false false [] rs) := Lib.hid (by rw [HM.out, mergeF_r]; simp)
       clear HM
       have T2 := run_tailQ b2 o2 (rs.length + 1) k2 (by omega)
       have HB5 := HB
       have HO5 := HO
       subst hav hbv
       go_wp2_with (fail)
       go_roundw
       case rel => exact ⟨[], rs, done, HVA, HTB, HO5, HB5, by simp at hlen ⊢; omega, Lib.hid ⟨by simp at l0 ⊢ <;> omega, by simp at l1 ⊢ <;> omega⟩, HN2⟩
       case measure =>
         have la2 : lenV (tailQ b2 o2 (rs.length + 1) k2) = rs.length := HTB.out.len
         simp only [la2]
         simp [lenV]
         try omega
   · rcases rs with _ | ⟨y, rs⟩
     · obtain ⟨rb, cb2, hbv⟩ := HVB.out.empty
       have la : ls.length <= 2097152 := by simp at l0; omega
       have pa1 : (0 : Int) < (ls.length : Int) + 1 := by omega
       have za1 : ((ls.length : Int) + 1 == 0) = false := beq_eq_false_iff_ne.2 (by omega)
       obtain ⟨b1, o1, k1, hav, hk1, hr1, HTA⟩ := HVA.out.cons
       have HR1 := Lib.hid hr1
       have HTA := Lib.hid HTA
       clear hr1
       have HN2 : Hid (mergeF true false false as0 bs0 = (done ++ [x]) ++ mergeF true false false ls []) := Lib.hid (by rw [HM.out, mergeF_l]; simp)
       clear HM
       have T1 := run_tailQ b1 o1 (ls.length + 1) k1 (by omega)
       have HB5 := HB
       have HO5 := HO
       subst hav hbv
       go_wp2_with (first | (refine wpList_load_quad rfl (.tmp 51) rfl b1 o1 rfl x (range_below HR1.out HB5.out) ?_) | (at_builtin; refine wpList_append_quad rfl (.tmp 49) (.tmp 53) rfl w.heap.size _ done rfl _ HO5.out x 56 rfl rfl (by omega) w HB5.out HB5.out.size ?_; intro v6 w6 ho6 hb6; have HO6 := Lib.hid ho6; have HB6 := Lib.hid hb6; clear ho6 hb6))
       go_roundw
       case rel => exact ⟨ls, [], done ++ [x], HTA, HVB, HO6, HB6, by simp at hlen ⊢; omega, Lib.hid ⟨by simp at l0 ⊢ <;> omega, by simp at l1 ⊢ <;> omega⟩, HN2⟩
       case measure =>
         have la1 : lenV (tailQ b1 o1 (ls.length + 1) k1) = ls.length := HTA.out.len
         simp only [la1]
         simp [lenV]
         try omega
     · have la : ls.length <= 2097152 := by simp at l0; omega
       have pa1 : (0 : Int) < (ls.length : Int) + 1 := by omega
       have za1 : ((ls.length : Int) + 1 == 0) = false := beq_eq_false_iff_ne.2 (by omega)
       obtain ⟨b1, o1, k1, hav, hk1, hr1, HTA⟩ := HVA.out.cons
       have HR1 := Lib.hid hr1
       have HTA := Lib.hid HTA
       clear hr1
       have lb : rs.length <= 2097152 := by simp at l1; omega
       have pb1 : (0 : Int) < (rs.length : Int) + 1 := by omega
       have zb1 : ((rs.length : Int) + 1 == 0) = false := beq_eq_false_iff_ne.2 (by omega)
       obtain ⟨b2, o2, k2, hbv, hk2, hr2, HTB⟩ := HVB.out.cons
       have HR2 := Lib.hid hr2
       have HTB := Lib.hid HTB
       clear hr2
       have pab : (0 : Int) < (ls.length : Int) + 1 + ((rs.length : Int) + 1) := by omega
       obtain ⟨n, hn⟩ : ∃ n, cmpQ x y = n := ⟨_, rfl⟩
       have h3 := cmpQ_three x y
       rw [hn] at h3
       have CX := CM.out x y
       rw [hn] at CX
       have HN := Lib.hid hn
       have CM := Lib.hid CX
       clear CX hn
       rcases h3 with rfl | rfl | rfl
       · have HN2 : Hid (mergeF true false false as0 bs0 = (done ++ [x]) ++ mergeF true false false ls (y :: rs)) := Lib.hid (by rw [HM.out, mergeF_lt (by rw [HN.out]; decide)]; simp)
         clear HM
         have T1 := run_tailQ b1 o1 (ls.length + 1) k1 (by omega)
         subst hav hbv
         have RD1 : Hid (wr.drew.rangeAt b1 o1 (quadC x)) := Lib.hid (show wr.rangeAt b1 o1 (quadC x) from range_below HR1.out HB.out)
         have RD2 : Hid (wr.drew.rangeAt b2 o2 (quadC y)) := Lib.hid (show wr.rangeAt b2 o2 (quadC y) from range_below HR2.out HB.out)
         go_wp2_with fail
         refine region_still 7 (by kernel_rfl) (by kernel_rfl) ?_
         simp only [List.take_succ_cons, List.take_zero, List.drop_succ_cons, List.drop_zero]
         repeat (first | refine still_load_quad rfl (.tmp 31) rfl b1 o1 rfl x RD1.out ?_ | refine still_load_quad rfl (.tmp 34) rfl b2 o2 rfl y RD2.out ?_ | still_step)
         refine wpStill_nil ?_
         go_wp2_with (first | (go_at_call 61; (with_reducible refine (CM.out _).mono ?_); rintro e w3 ⟨rfl, hb3⟩; have HB5 := Lib.hid (HB.out.trans (((below_drewN _ 1).trans hb3).mono HB.out.size)); have HO5 := Lib.hid (HO.out.below ((below_drewN _ 1).trans hb3)); clear hb3) | (refine wpList_load_quad rfl (.tmp 51) rfl b1 o1 rfl x (range_below HR1.out HB5.out) ?_) | (at_builtin; refine wpList_append_quad rfl (.tmp 49) (.tmp 53) rfl w.heap.size _ done rfl _ HO5.out x 56 rfl rfl (by omega) w HB5.out HB5.out.size ?_; intro v6 w6 ho6 hb6; have HO6 := Lib.hid ho6; have HB6 := Lib.hid hb6; clear ho6 hb6))
         go_roundw
         case rel => exact ⟨ls, (y :: rs), done ++ [x], HTA, HVB, HO6, HB6, by simp at hlen ⊢; omega, Lib.hid ⟨by simp at l0 ⊢ <;> omega, by simp at l1 ⊢ <;> omega⟩, HN2⟩
         case measure =>
           have la1 : lenV (tailQ b1 o1 (ls.length + 1) k1) = ls.length := HTA.out.len
           simp only [la1]
           simp [lenV]
           try omega
       · have HN2 : Hid (mergeF true false false as0 bs0 = done ++ mergeF true false false ls rs) := Lib.hid (by rw [HM.out, mergeF_eq HN.out]; simp)
         clear HM
         have T1 := run_tailQ b1 o1 (ls.length + 1) k1 (by omega)
         have T2 := run_tailQ b2 o2 (rs.length + 1) k2 (by omega)
         subst hav hbv
         have RD1 : Hid (wr.drew.rangeAt b1 o1 (quadC x)) := Lib.hid (show wr.rangeAt b1 o1 (quadC x) from range_below HR1.out HB.out)
         have RD2 : Hid (wr.drew.rangeAt b2 o2 (quadC y)) := Lib.hid (show wr.rangeAt b2 o2 (quadC y) from range_below HR2.out HB.out)
         go_wp2_with fail
         refine region_still 7 (by kernel_rfl) (by kernel_rfl) ?_
         simp only [List.take_succ_cons, List.take_zero, List.drop_succ_cons, List.drop_zero]
         repeat (first | refine still_load_quad rfl (.tmp 31) rfl b1 o1 rfl x RD1.out ?_ | refine still_load_quad rfl (.tmp 34) rfl b2 o2 rfl y RD2.out ?_ | still_step)
         refine wpStill_nil ?_
         go_wp2_with (first | (go_at_call 61; (with_reducible refine (CM.out _).mono ?_); rintro e w3 ⟨rfl, hb3⟩; have HB5 := Lib.hid (HB.out.trans (((below_drewN _ 1).trans hb3).mono HB.out.size)); have HO5 := Lib.hid (HO.out.below ((below_drewN _ 1).trans hb3)); clear hb3))
         go_roundw
         case rel => exact ⟨ls, rs, done, HTA, HTB, HO5, HB5, by simp at hlen ⊢; omega, Lib.hid ⟨by simp at l0 ⊢ <;> omega, by simp at l1 ⊢ <;> omega⟩, HN2⟩
         case measure =>
           have la1 : lenV (tailQ b1 o1 (ls.length + 1) k1) = ls.length := HTA.out.len
           have la2 : lenV (tailQ b2 o2 (rs.length + 1) k2) = rs.length := HTB.out.len
           simp only [la1, la2]
           simp [lenV]
           try omega
       · have HN2 : Hid (mergeF true false false as0 bs0 = done ++ mergeF true false false (x :: ls) rs) := Lib.hid (by rw [HM.out, mergeF_gt (by rw [HN.out]; decide)]; simp)
         clear HM
         have T2 := run_tailQ b2 o2 (rs.length + 1) k2 (by omega)
         subst hav hbv
         have RD1 : Hid (wr.drew.rangeAt b1 o1 (quadC x)) := Lib.hid (show wr.rangeAt b1 o1 (quadC x) from range_below HR1.out HB.out)
         have RD2 : Hid (wr.drew.rangeAt b2 o2 (quadC y)) := Lib.hid (show wr.rangeAt b2 o2 (quadC y) from range_below HR2.out HB.out)
         go_wp2_with fail
         refine region_still 7 (by kernel_rfl) (by kernel_rfl) ?_
         simp only [List.take_succ_cons, List.take_zero, List.drop_succ_cons, List.drop_zero]
         repeat (first | refine still_load_quad rfl (.tmp 31) rfl b1 o1 rfl x RD1.out ?_ | refine still_load_quad rfl (.tmp 34) rfl b2 o2 rfl y RD2.out ?_ | still_step)
         refine wpStill_nil ?_
         go_wp2_with (first | (go_at_call 61; (with_reducible refine (CM.out _).mono ?_); rintro e w3 ⟨rfl, hb3⟩; have HB5 := Lib.hid (HB.out.trans (((below_drewN _ 1).trans hb3).mono HB.out.size)); have HO5 := Lib.hid (HO.out.below ((below_drewN _ 1).trans hb3)); clear hb3))
         go_roundw
         case rel => exact ⟨(x :: ls), rs, done, HVA, HTB, HO5, HB5, by simp at hlen ⊢; omega, Lib.hid ⟨by simp at l0 ⊢ <;> omega, by simp at l1 ⊢ <;> omega⟩, HN2⟩
         case measure =>
           have la2 : lenV (tailQ b2 o2 (rs.length + 1) k2) = rs.length := HTB.out.len
           simp only [la2]
           simp [lenV]
           try omega
end Go.Proofs.YtmnigckpejcaeaaGreatDoor
