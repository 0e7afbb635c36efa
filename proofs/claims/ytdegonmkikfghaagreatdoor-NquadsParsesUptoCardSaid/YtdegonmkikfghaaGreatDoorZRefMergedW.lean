/-
  The reference's merged: contract. By an AI agent.
-/
import Derived.Test.YtdegonmkikfghaaGreatDoorZRefMerged
import Derived.Deep.Cut
namespace Go.Proofs.YtdegonmkikfghaaGreatDoor
open Lib (hid)
open Go.RowKit
set_option maxRecDepth 100000
set_option maxHeartbeats 8000000 in
theorem refMerged_l (as0 bs0 : List QuadL) (v0 v1 : Value) (w : World) (h0 : QView w v0 as0) (h1 : QView w v1 bs0) (n0 : as0.length <= 2097152) (n1 : bs0.length <= 2097152) :
  Calls Tryz.prog 73 #[v0, v1] w fun e w' => ∃ v, e = .returned v /\ QOwn w.heap.size v (joinR none as0 bs0) w' /\ Below w.heap.size w w' := by
 have CM := hid (fun (x y : QuadL) (u : World) => refCompareQuads_l x y u)
 obtain ⟨pa, ca, rfl⟩ := h0.form'
 obtain ⟨pb, cb, rfl⟩ := h1.form'
 have HA := hid h0
 have HBV := hid h1
 clear h0 h1
 go_enter Tryz.func73, Tryz.ntmps73
 go_wp2_with fail
 go_loopw [0, 1, 5] (fun av bv ov wr => ∃ (ls rs done : List QuadL), Hid (QView w av ls) /\ Hid (QView w bv rs) /\ Hid (QOwn w.heap.size ov done wr) /\ Hid (Below w.heap.size w wr) /\ done.length + ls.length + rs.length <= as0.length + bs0.length /\ Hid (ls.length <= 2097152 /\ rs.length <= 2097152) /\ Hid (joinR none as0 bs0 = done ++ joinR done.getLast? ls rs)) (fun av bv _ _ => lenV av + lenV bv)
 case atStart => exact ⟨as0, bs0, [], HA, HBV, hid (QOwn.nil _ _), hid (Below.refl _ _), by simp, hid ⟨n0, n1⟩, hid rfl⟩
 case round =>
  obtain ⟨ls, rs, done, HVA, HVB, HO, HB, hlen, HL, HM⟩ := hrel
  clear HA HBV
  obtain ⟨l0, l1⟩ := HL.out
  rcases ls with _ | ⟨x, ls⟩
  ·obtain ⟨ra, ca2, hav⟩ := HVA.out.empty
   rcases rs with _ | ⟨y, rs⟩
   ·obtain ⟨rb, cb2, hbv⟩ := HVB.out.empty
    have HE : Hid (joinR none as0 bs0 = done) := hid (by rw [HM.out, joinR_nil, List.append_nil])
    clear HM CM HL
    subst hav hbv
    go_wp2_with fail
    go_ret
    exact ⟨_, rfl, by rw [HE.out]; exact HO.out, HB.out⟩
   ·have lb : rs.length <= 2097152 := by simp at l1; omega
    have pb1 : (0 : Int) < (rs.length : Int) + 1 := by omega
    have zb1 : ((rs.length : Int) + 1 == 0) = false := beq_eq_false_iff_ne.2 (by omega)
    obtain ⟨b2, o2, k2, hbv, hk2, hr2, htb⟩ := HVB.out.cons
    have HR2 := hid hr2
    have HTB := hid htb
    clear hr2 htb
    have HJ : Hid (joinR none as0 bs0 = doneQ done y ++ joinR (doneQ done y).getLast? [] rs) := hid (by rw [HM.out]; exact joinR_b done y [] rs (.inl rfl))
    clear HM
    have T2 := run_tailQ b2 o2 (rs.length + 1) k2 (by omega)
    have q0 : decide ((0 : Int) < 0) = false := rfl
    subst hav hbv
    go_wp2_with fail
    go_quiet (fail)
    have hg0 : ((wr.alloc (.cells #[.int .i64 0, .string ⟨#[]⟩, .string ⟨#[]⟩, .string ⟨#[]⟩, .int .i64 0, .string ⟨#[]⟩, .string ⟨#[]⟩, .string ⟨#[]⟩, .int .i64 0, .string ⟨#[]⟩, .string ⟨#[]⟩, .string ⟨#[]⟩, .int .i64 0, .string ⟨#[]⟩, .string ⟨#[]⟩, .string ⟨#[]⟩] 36)).drewN nq).heap[wr.heap.size]? = some (.cells #[.int .i64 0, .string ⟨#[]⟩, .string ⟨#[]⟩, .string ⟨#[]⟩, .int .i64 0, .string ⟨#[]⟩, .string ⟨#[]⟩, .string ⟨#[]⟩, .int .i64 0, .string ⟨#[]⟩, .string ⟨#[]⟩, .string ⟨#[]⟩, .int .i64 0, .string ⟨#[]⟩, .string ⟨#[]⟩, .string ⟨#[]⟩] 36 (0, 0)) := heap_alloc_new wr _
    have HBx : Hid (Below wr.heap.size wr ((wr.alloc (.cells #[.int .i64 0, .string ⟨#[]⟩, .string ⟨#[]⟩, .string ⟨#[]⟩, .int .i64 0, .string ⟨#[]⟩, .string ⟨#[]⟩, .string ⟨#[]⟩, .int .i64 0, .string ⟨#[]⟩, .string ⟨#[]⟩, .string ⟨#[]⟩, .int .i64 0, .string ⟨#[]⟩, .string ⟨#[]⟩, .string ⟨#[]⟩] 36)).drewN nq)) := hid (below_drewN ((Below.refl _ _).alloc (Nat.le_refl _) _) nq)
    have RQ : Hid (((wr.alloc (.cells #[.int .i64 0, .string ⟨#[]⟩, .string ⟨#[]⟩, .string ⟨#[]⟩, .int .i64 0, .string ⟨#[]⟩, .string ⟨#[]⟩, .string ⟨#[]⟩, .int .i64 0, .string ⟨#[]⟩, .string ⟨#[]⟩, .string ⟨#[]⟩, .int .i64 0, .string ⟨#[]⟩, .string ⟨#[]⟩, .string ⟨#[]⟩] 36)).drewN nq).rangeAt b2 o2 (quadC y)) := hid (range_below (range_below HR2.out HB.out) HBx.out)
    obtain ⟨g, hgz⟩ : ∃ g, wr.heap.size = g := ⟨_, rfl⟩
    have hgsz := hid hgz.symm
    have hgw : w.heap.size <= g := by rw [<- hgz]; exact HB.out.size
    rw [hgz] at hg0 HBx ⊢
    clear hgz
    generalize (wr.alloc (.cells #[.int .i64 0, .string ⟨#[]⟩, .string ⟨#[]⟩, .string ⟨#[]⟩, .int .i64 0, .string ⟨#[]⟩, .string ⟨#[]⟩, .string ⟨#[]⟩, .int .i64 0, .string ⟨#[]⟩, .string ⟨#[]⟩, .string ⟨#[]⟩, .int .i64 0, .string ⟨#[]⟩, .string ⟨#[]⟩, .string ⟨#[]⟩] 36)).drewN nq = V at hg0 HBx RQ ⊢
    have HG := hid hg0
    clear hg0
    go_upto_region 8 with (first | (refine wpList_load_quad rfl (.tmp 39) rfl b2 o2 rfl y RQ.out ?_) | (refine wpList_store_quad rfl (.tmp 6) (.tmp 40) rfl _ rfl y rfl ?T1 ?o1 ?hs1 ?hg1 ?_; (case hg1 => exact HG.out); (case hs1 => rfl); go_frame))
    have RB : Hid ((V.setRow g (quadC y).toArray).rangeAt g 0 (quadC y)) := hid (range_row (setRow_heap _ g _ (quadC y).toArray 36 (0, 0) HG.out))
    have HBy : Below g wr (V.setRow g (quadC y).toArray) := HBx.out.trans ⟨rfl, rfl, rfl, by simp, fun k hk => setRow_other V g k _ (by omega)⟩
    have HB5 : Hid (Below w.heap.size w (V.setRow g (quadC y).toArray)) := hid (HB.out.trans (HBy.mono hgw))
    have HO5 : Hid (QOwn w.heap.size u5 done (V.setRow g (quadC y).toArray)) := hid (HO.out.below (hgsz.out ▸ HBy))
    clear HBy
    generalize V.setRow g (quadC y).toArray = WS at RB HB5 HO5 ⊢
    clear HG HBx RQ
    go_wp2_with fail
    rcases List.eq_nil_or_concat done with hd0 | ⟨ds, z, hd0⟩
    ·have HN : Hid (joinR none as0 bs0 = (done ++ [y]) ++ joinR (done ++ [y]).getLast? ([]) (rs)) := hid (by rw [HJ.out, show doneQ done y = done ++ [y] by rw [hd0]; rfl])
     have hl0 : done.length = 0 := by rw [hd0]; rfl
     clear HJ hd0
     obtain ⟨va, vc, hov⟩ := HO5.out.view.form'
     rw [hl0] at hov
     subst hov
     go_quiet (fail)
     have HB6 : Hid (Below w.heap.size w (WS.drewN nq)) := hid (below_drewN HB5.out nq)
     have HO6 : Hid (QOwn w.heap.size (.slice va 0 vc) done (WS.drewN nq)) := hid (show QOwn w.heap.size (.slice va 0 vc) done (WS.drewN nq) from HO5.out)
     have RB9 : Hid ((WS.drewN nq).rangeAt g 0 (quadC y)) := hid (show WS.rangeAt g 0 (quadC y) from RB.out)
     generalize WS.drewN nq = WT at HB6 HO6 RB9 ⊢
     go_wp2_with (first | (refine wpList_load_quad rfl (.tmp 6) rfl g 0 rfl y RB9.out ?_) | (refine wpList_build1c rfl (.tmp 58) rfl y rfl ?_) | (at_builtin; refine wpList_append_quad rfl (.tmp 57) (.tmp 59) rfl w.heap.size _ done rfl _ HO6.out y 36 rfl rfl (by omega) w HB6.out HB6.out.size ?_; intro v6 w6 ho6 hb6; have HO9 := hid ho6; have HB9 := hid hb6; clear ho6 hb6))
     try (go_frame; go_wp2_with fail)
     go_roundw
     case rel => exact ⟨[], rs, done ++ [y], HVA, HTB, HO9, HB9, by simp at hlen ⊢; omega, hid ⟨by simp at l0 ⊢ <;> omega, by simp at l1 ⊢ <;> omega⟩, HN⟩
     case measure =>
      have la2 : lenV (tailQ b2 o2 (rs.length + 1) k2) = rs.length := HTB.out.len
      simp only [la2]
      simp [lenV]
    ·have HN0 : Hid (doneQ done y = if decide (cmpQ z y < 0) then done ++ [y] else done) := hid (by unfold doneQ goesB; rw [hd0]; simp)
     have hld : done.length = ds.length + 1 := by rw [hd0]; simp
     have hld2 : ds.length <= 4194304 := by omega
     obtain ⟨va, vc, hov⟩ := HO5.out.view.form'
     have hvw := HO5.out.view
     subst hov
     obtain ⟨b9, o9, rfl⟩ := hvw.place1 (by omega)
     have hz := hvw.get1 (k := ds.length) (by omega)
     rw [show done[ds.length]'(by omega) = z by simp [hd0]] at hz
     have RZ : Hid (WS.drew.rangeAt b9 (o9 + ds.length * 16) (quadC z)) := hid hz
     have RB1 : Hid (WS.drew.rangeAt g 0 (quadC y)) := hid (show WS.rangeAt g 0 (quadC y) from RB.out)
     obtain ⟨k, hkk⟩ : ∃ k, ds.length = k := ⟨_, rfl⟩
     rw [hkk] at RZ hld hld2
     clear hvw hz hd0 hkk
     have hldn := hld
     obtain ⟨N, eN⟩ : ∃ N, done.length = N := ⟨_, rfl⟩
     rw [eN] at hld
     have W1 : IntKind.i64.wrap (k : Int) = (k : Int) := IntWalk.i64_in _ (by omega)
     have W2 : IntKind.i64.wrap ((N : Int) - 1) = (k : Int) := by rw [show (N : Int) - 1 = k by omega]; exact W1
     have hm3 : (0 : Int) <= (k : Int) := by omega
     have hkN : k < N := by omega
     have hkI : (k : Int) < (N : Int) := by omega
     have z9 : ((N : Int) == 0) = false := beq_eq_false_iff_ne.2 (by omega)
     have HLN := hid eN
     have hle : done.length <= 4194304 := by omega
     obtain ⟨n2, hn2⟩ : ∃ n, cmpQ z y = n := ⟨_, rfl⟩
     have CX := CM.out z y
     rw [hn2] at CX HN0
     have CM2 := hid CX
     clear CX hn2
     have HO5n := hid (show QOwn w.heap.size (.slice (some ⟨b9, o9, none⟩) N vc) done WS by rw [<- eN]; exact HO5.out)
     clear HO5
     have HO5 := HO5n
     clear HO5n
     rw [eN]
     clear hld hldn eN T2 q0 zb1 pb1
     by_cases t2 : n2 < 0
     ·have q7 : decide (n2 < 0) = true := decide_eq_true t2
      have HN : Hid (joinR none as0 bs0 = (done ++ [y]) ++ joinR (done ++ [y]).getLast? ([]) (rs)) := hid (by rw [HJ.out, HN0.out, if_pos q7])
      clear HJ HN0 t2
      refine region_still 11 (by kernel_rfl) (by kernel_rfl) ?_
      simp only [List.take_succ_cons, List.take_zero, List.drop_succ_cons, List.drop_zero]
      repeat (first | (refine still_load_quadG (.tmp 51) rfl ?hw8 b9 (o9 + k * 16) rfl z RZ.out ?_; (case hw8 => first | rfl | go_simp)) | (refine still_load_quadG (.tmp 6) rfl ?hw9 g 0 rfl y RB1.out ?_; (case hw9 => first | rfl | go_simp)) | still_step)
      refine wpStill_nil ?_
      clear W1 W2
      go_wp2_with (first | (go_at_call 57; (with_reducible refine (CM2.out _).mono ?_); rintro e w8 ⟨rfl, hb8⟩; have HB8 := hid hb8; have HB6 := hid (HB5.out.trans (((below_drewN (Below.refl _ WS) 1).trans hb8).mono HB5.out.size)); have HO6 := hid (HO5.out.below ((below_drewN (Below.refl _ WS) 1).trans hb8)); have RB9 := hid (range_below RB1.out hb8); clear hb8) | (refine wpList_load_quad rfl (.tmp 6) rfl g 0 rfl y RB9.out ?_) | (refine wpList_build1c rfl (.tmp 58) rfl y rfl ?_) | (at_builtin; refine wpList_append_quad rfl (.tmp 57) (.tmp 59) rfl w.heap.size _ done rfl _ HO6.out y 36 rfl rfl (by omega) w HB6.out HB6.out.size ?_; intro v6 w6 ho6 hb6; have HO9 := hid ho6; have HB9 := hid hb6; clear ho6 hb6))
      try (go_frame; go_wp2_with fail)
      go_roundw
      case rel => exact ⟨[], rs, done ++ [y], HVA, HTB, HO9, HB9, by simp at hlen ⊢; omega, hid ⟨by simp at l0 ⊢ <;> omega, by simp at l1 ⊢ <;> omega⟩, HN⟩
      case measure =>
       have la2 : lenV (tailQ b2 o2 (rs.length + 1) k2) = rs.length := HTB.out.len
       simp only [la2]
       simp [lenV]
     ·have q7 : decide (n2 < 0) = false := decide_eq_false t2
      have HN : Hid (joinR none as0 bs0 = done ++ joinR done.getLast? ([]) (rs)) := hid (by rw [HJ.out, HN0.out, if_neg (by rw [q7]; simp)])
      clear HJ HN0 t2
      refine region_still 11 (by kernel_rfl) (by kernel_rfl) ?_
      simp only [List.take_succ_cons, List.take_zero, List.drop_succ_cons, List.drop_zero]
      repeat (first | (refine still_load_quadG (.tmp 51) rfl ?hw8 b9 (o9 + k * 16) rfl z RZ.out ?_; (case hw8 => first | rfl | go_simp)) | (refine still_load_quadG (.tmp 6) rfl ?hw9 g 0 rfl y RB1.out ?_; (case hw9 => first | rfl | go_simp)) | still_step)
      refine wpStill_nil ?_
      clear W1 W2
      go_wp2_with (go_at_call 57; (with_reducible refine (CM2.out _).mono ?_); rintro e w8 ⟨rfl, hb8⟩; have HB8 := hid hb8; have HB6 := hid (HB5.out.trans (((below_drewN (Below.refl _ WS) 1).trans hb8).mono HB5.out.size)); have HO6 := hid (HO5.out.below ((below_drewN (Below.refl _ WS) 1).trans hb8)); have RB9 := hid (range_below RB1.out hb8); clear hb8)
      have HO9 := HO6
      have HB9 := HB6
      try (go_frame; go_wp2_with fail)
      go_roundw
      case rel => exact ⟨[], rs, done, HVA, HTB, HO9, HB9, by simp at hlen ⊢; omega, hid ⟨by simp at l0 ⊢ <;> omega, by simp at l1 ⊢ <;> omega⟩, HN⟩
      case measure =>
       have la2 : lenV (tailQ b2 o2 (rs.length + 1) k2) = rs.length := HTB.out.len
       simp only [la2]
       simp [lenV]
  ·have la : ls.length <= 2097152 := by simp at l0; omega
   have pa1 : (0 : Int) < (ls.length : Int) + 1 := by omega
   have za1 : ((ls.length : Int) + 1 == 0) = false := beq_eq_false_iff_ne.2 (by omega)
   obtain ⟨b1, o1, k1, hav, hk1, hr1, hta⟩ := HVA.out.cons
   have HR1 := hid hr1
   have HTA := hid hta
   clear hr1 hta
   have T1 := run_tailQ b1 o1 (ls.length + 1) k1 (by omega)
   have q0 : decide ((0 : Int) < 0) = false := rfl
   rcases rs with _ | ⟨y, rs⟩
   ·obtain ⟨rb, cb2, hbv⟩ := HVB.out.empty
    have HJ : Hid (joinR none as0 bs0 = doneQ done x ++ joinR (doneQ done x).getLast? ls []) := hid (by rw [HM.out]; exact joinR_a done x ls [] (.inl rfl))
    clear HM
    subst hav hbv
    go_wp2_with fail
    go_quiet (fail)
    have hg0 : ((wr.alloc (.cells #[.int .i64 0, .string ⟨#[]⟩, .string ⟨#[]⟩, .string ⟨#[]⟩, .int .i64 0, .string ⟨#[]⟩, .string ⟨#[]⟩, .string ⟨#[]⟩, .int .i64 0, .string ⟨#[]⟩, .string ⟨#[]⟩, .string ⟨#[]⟩, .int .i64 0, .string ⟨#[]⟩, .string ⟨#[]⟩, .string ⟨#[]⟩] 36)).drewN nq).heap[wr.heap.size]? = some (.cells #[.int .i64 0, .string ⟨#[]⟩, .string ⟨#[]⟩, .string ⟨#[]⟩, .int .i64 0, .string ⟨#[]⟩, .string ⟨#[]⟩, .string ⟨#[]⟩, .int .i64 0, .string ⟨#[]⟩, .string ⟨#[]⟩, .string ⟨#[]⟩, .int .i64 0, .string ⟨#[]⟩, .string ⟨#[]⟩, .string ⟨#[]⟩] 36 (0, 0)) := heap_alloc_new wr _
    have HBx : Hid (Below wr.heap.size wr ((wr.alloc (.cells #[.int .i64 0, .string ⟨#[]⟩, .string ⟨#[]⟩, .string ⟨#[]⟩, .int .i64 0, .string ⟨#[]⟩, .string ⟨#[]⟩, .string ⟨#[]⟩, .int .i64 0, .string ⟨#[]⟩, .string ⟨#[]⟩, .string ⟨#[]⟩, .int .i64 0, .string ⟨#[]⟩, .string ⟨#[]⟩, .string ⟨#[]⟩] 36)).drewN nq)) := hid (below_drewN ((Below.refl _ _).alloc (Nat.le_refl _) _) nq)
    have RQ : Hid (((wr.alloc (.cells #[.int .i64 0, .string ⟨#[]⟩, .string ⟨#[]⟩, .string ⟨#[]⟩, .int .i64 0, .string ⟨#[]⟩, .string ⟨#[]⟩, .string ⟨#[]⟩, .int .i64 0, .string ⟨#[]⟩, .string ⟨#[]⟩, .string ⟨#[]⟩, .int .i64 0, .string ⟨#[]⟩, .string ⟨#[]⟩, .string ⟨#[]⟩] 36)).drewN nq).rangeAt b1 o1 (quadC x)) := hid (range_below (range_below HR1.out HB.out) HBx.out)
    obtain ⟨g, hgz⟩ : ∃ g, wr.heap.size = g := ⟨_, rfl⟩
    have hgsz := hid hgz.symm
    have hgw : w.heap.size <= g := by rw [<- hgz]; exact HB.out.size
    rw [hgz] at hg0 HBx ⊢
    clear hgz
    generalize (wr.alloc (.cells #[.int .i64 0, .string ⟨#[]⟩, .string ⟨#[]⟩, .string ⟨#[]⟩, .int .i64 0, .string ⟨#[]⟩, .string ⟨#[]⟩, .string ⟨#[]⟩, .int .i64 0, .string ⟨#[]⟩, .string ⟨#[]⟩, .string ⟨#[]⟩, .int .i64 0, .string ⟨#[]⟩, .string ⟨#[]⟩, .string ⟨#[]⟩] 36)).drewN nq = V at hg0 HBx RQ ⊢
    have HG := hid hg0
    clear hg0
    go_upto_region 6 with (first | (refine wpList_load_quad rfl (.tmp 34) rfl b1 o1 rfl x RQ.out ?_) | (refine wpList_store_quad rfl (.tmp 6) (.tmp 35) rfl _ rfl x rfl ?T1 ?o1 ?hs1 ?hg1 ?_; (case hg1 => exact HG.out); (case hs1 => rfl); go_frame))
    have RB : Hid ((V.setRow g (quadC x).toArray).rangeAt g 0 (quadC x)) := hid (range_row (setRow_heap _ g _ (quadC x).toArray 36 (0, 0) HG.out))
    have HBy : Below g wr (V.setRow g (quadC x).toArray) := HBx.out.trans ⟨rfl, rfl, rfl, by simp, fun k hk => setRow_other V g k _ (by omega)⟩
    have HB5 : Hid (Below w.heap.size w (V.setRow g (quadC x).toArray)) := hid (HB.out.trans (HBy.mono hgw))
    have HO5 : Hid (QOwn w.heap.size u5 done (V.setRow g (quadC x).toArray)) := hid (HO.out.below (hgsz.out ▸ HBy))
    clear HBy
    generalize V.setRow g (quadC x).toArray = WS at RB HB5 HO5 ⊢
    clear HG HBx RQ
    go_wp2_with fail
    rcases List.eq_nil_or_concat done with hd0 | ⟨ds, z, hd0⟩
    ·have HN : Hid (joinR none as0 bs0 = (done ++ [x]) ++ joinR (done ++ [x]).getLast? (ls) ([])) := hid (by rw [HJ.out, show doneQ done x = done ++ [x] by rw [hd0]; rfl])
     have hl0 : done.length = 0 := by rw [hd0]; rfl
     clear HJ hd0
     obtain ⟨va, vc, hov⟩ := HO5.out.view.form'
     rw [hl0] at hov
     subst hov
     go_quiet (fail)
     have HB6 : Hid (Below w.heap.size w (WS.drewN nq)) := hid (below_drewN HB5.out nq)
     have HO6 : Hid (QOwn w.heap.size (.slice va 0 vc) done (WS.drewN nq)) := hid (show QOwn w.heap.size (.slice va 0 vc) done (WS.drewN nq) from HO5.out)
     have RB9 : Hid ((WS.drewN nq).rangeAt g 0 (quadC x)) := hid (show WS.rangeAt g 0 (quadC x) from RB.out)
     generalize WS.drewN nq = WT at HB6 HO6 RB9 ⊢
     go_wp2_with (first | (refine wpList_load_quad rfl (.tmp 6) rfl g 0 rfl x RB9.out ?_) | (refine wpList_build1c rfl (.tmp 58) rfl x rfl ?_) | (at_builtin; refine wpList_append_quad rfl (.tmp 57) (.tmp 59) rfl w.heap.size _ done rfl _ HO6.out x 36 rfl rfl (by omega) w HB6.out HB6.out.size ?_; intro v6 w6 ho6 hb6; have HO9 := hid ho6; have HB9 := hid hb6; clear ho6 hb6))
     try (go_frame; go_wp2_with fail)
     go_roundw
     case rel => exact ⟨ls, [], done ++ [x], HTA, HVB, HO9, HB9, by simp at hlen ⊢; omega, hid ⟨by simp at l0 ⊢ <;> omega, by simp at l1 ⊢ <;> omega⟩, HN⟩
     case measure =>
      have la1 : lenV (tailQ b1 o1 (ls.length + 1) k1) = ls.length := HTA.out.len
      simp only [la1]
      simp [lenV]
    ·have HN0 : Hid (doneQ done x = if decide (cmpQ z x < 0) then done ++ [x] else done) := hid (by unfold doneQ goesB; rw [hd0]; simp)
     have hld : done.length = ds.length + 1 := by rw [hd0]; simp
     have hld2 : ds.length <= 4194304 := by omega
     obtain ⟨va, vc, hov⟩ := HO5.out.view.form'
     have hvw := HO5.out.view
     subst hov
     obtain ⟨b9, o9, rfl⟩ := hvw.place1 (by omega)
     have hz := hvw.get1 (k := ds.length) (by omega)
     rw [show done[ds.length]'(by omega) = z by simp [hd0]] at hz
     have RZ : Hid (WS.drew.rangeAt b9 (o9 + ds.length * 16) (quadC z)) := hid hz
     have RB1 : Hid (WS.drew.rangeAt g 0 (quadC x)) := hid (show WS.rangeAt g 0 (quadC x) from RB.out)
     obtain ⟨k, hkk⟩ : ∃ k, ds.length = k := ⟨_, rfl⟩
     rw [hkk] at RZ hld hld2
     clear hvw hz hd0 hkk
     have hldn := hld
     obtain ⟨N, eN⟩ : ∃ N, done.length = N := ⟨_, rfl⟩
     rw [eN] at hld
     have W1 : IntKind.i64.wrap (k : Int) = (k : Int) := IntWalk.i64_in _ (by omega)
     have W2 : IntKind.i64.wrap ((N : Int) - 1) = (k : Int) := by rw [show (N : Int) - 1 = k by omega]; exact W1
     have hm3 : (0 : Int) <= (k : Int) := by omega
     have hkN : k < N := by omega
     have hkI : (k : Int) < (N : Int) := by omega
     have z9 : ((N : Int) == 0) = false := beq_eq_false_iff_ne.2 (by omega)
     have HLN := hid eN
     have hle : done.length <= 4194304 := by omega
     obtain ⟨n2, hn2⟩ : ∃ n, cmpQ z x = n := ⟨_, rfl⟩
     have CX := CM.out z x
     rw [hn2] at CX HN0
     have CM2 := hid CX
     clear CX hn2
     have HO5n := hid (show QOwn w.heap.size (.slice (some ⟨b9, o9, none⟩) N vc) done WS by rw [<- eN]; exact HO5.out)
     clear HO5
     have HO5 := HO5n
     clear HO5n
     rw [eN]
     clear hld hldn eN T1 q0 za1 pa1
     by_cases t2 : n2 < 0
     ·have q7 : decide (n2 < 0) = true := decide_eq_true t2
      have HN : Hid (joinR none as0 bs0 = (done ++ [x]) ++ joinR (done ++ [x]).getLast? (ls) ([])) := hid (by rw [HJ.out, HN0.out, if_pos q7])
      clear HJ HN0 t2
      refine region_still 11 (by kernel_rfl) (by kernel_rfl) ?_
      simp only [List.take_succ_cons, List.take_zero, List.drop_succ_cons, List.drop_zero]
      repeat (first | (refine still_load_quadG (.tmp 51) rfl ?hw8 b9 (o9 + k * 16) rfl z RZ.out ?_; (case hw8 => first | rfl | go_simp)) | (refine still_load_quadG (.tmp 6) rfl ?hw9 g 0 rfl x RB1.out ?_; (case hw9 => first | rfl | go_simp)) | still_step)
      refine wpStill_nil ?_
      clear W1 W2
      go_wp2_with (first | (go_at_call 57; (with_reducible refine (CM2.out _).mono ?_); rintro e w8 ⟨rfl, hb8⟩; have HB8 := hid hb8; have HB6 := hid (HB5.out.trans (((below_drewN (Below.refl _ WS) 1).trans hb8).mono HB5.out.size)); have HO6 := hid (HO5.out.below ((below_drewN (Below.refl _ WS) 1).trans hb8)); have RB9 := hid (range_below RB1.out hb8); clear hb8) | (refine wpList_load_quad rfl (.tmp 6) rfl g 0 rfl x RB9.out ?_) | (refine wpList_build1c rfl (.tmp 58) rfl x rfl ?_) | (at_builtin; refine wpList_append_quad rfl (.tmp 57) (.tmp 59) rfl w.heap.size _ done rfl _ HO6.out x 36 rfl rfl (by omega) w HB6.out HB6.out.size ?_; intro v6 w6 ho6 hb6; have HO9 := hid ho6; have HB9 := hid hb6; clear ho6 hb6))
      try (go_frame; go_wp2_with fail)
      go_roundw
      case rel => exact ⟨ls, [], done ++ [x], HTA, HVB, HO9, HB9, by simp at hlen ⊢; omega, hid ⟨by simp at l0 ⊢ <;> omega, by simp at l1 ⊢ <;> omega⟩, HN⟩
      case measure =>
       have la1 : lenV (tailQ b1 o1 (ls.length + 1) k1) = ls.length := HTA.out.len
       simp only [la1]
       simp [lenV]
     ·have q7 : decide (n2 < 0) = false := decide_eq_false t2
      have HN : Hid (joinR none as0 bs0 = done ++ joinR done.getLast? (ls) ([])) := hid (by rw [HJ.out, HN0.out, if_neg (by rw [q7]; simp)])
      clear HJ HN0 t2
      refine region_still 11 (by kernel_rfl) (by kernel_rfl) ?_
      simp only [List.take_succ_cons, List.take_zero, List.drop_succ_cons, List.drop_zero]
      repeat (first | (refine still_load_quadG (.tmp 51) rfl ?hw8 b9 (o9 + k * 16) rfl z RZ.out ?_; (case hw8 => first | rfl | go_simp)) | (refine still_load_quadG (.tmp 6) rfl ?hw9 g 0 rfl x RB1.out ?_; (case hw9 => first | rfl | go_simp)) | still_step)
      refine wpStill_nil ?_
      clear W1 W2
      go_wp2_with (go_at_call 57; (with_reducible refine (CM2.out _).mono ?_); rintro e w8 ⟨rfl, hb8⟩; have HB8 := hid hb8; have HB6 := hid (HB5.out.trans (((below_drewN (Below.refl _ WS) 1).trans hb8).mono HB5.out.size)); have HO6 := hid (HO5.out.below ((below_drewN (Below.refl _ WS) 1).trans hb8)); have RB9 := hid (range_below RB1.out hb8); clear hb8)
      have HO9 := HO6
      have HB9 := HB6
      try (go_frame; go_wp2_with fail)
      go_roundw
      case rel => exact ⟨ls, [], done, HTA, HVB, HO9, HB9, by simp at hlen ⊢; omega, hid ⟨by simp at l0 ⊢ <;> omega, by simp at l1 ⊢ <;> omega⟩, HN⟩
      case measure =>
       have la1 : lenV (tailQ b1 o1 (ls.length + 1) k1) = ls.length := HTA.out.len
       simp only [la1]
       simp [lenV]
   ·have lb : rs.length <= 2097152 := by simp at l1; omega
    have pb1 : (0 : Int) < (rs.length : Int) + 1 := by omega
    have zb1 : ((rs.length : Int) + 1 == 0) = false := beq_eq_false_iff_ne.2 (by omega)
    obtain ⟨b2, o2, k2, hbv, hk2, hr2, htb⟩ := HVB.out.cons
    have HR2 := hid hr2
    have HTB := hid htb
    clear hr2 htb
    have T2 := run_tailQ b2 o2 (rs.length + 1) k2 (by omega)
    obtain ⟨n, hn⟩ : ∃ n, cmpQ x y = n := ⟨_, rfl⟩
    have CX := CM.out x y
    rw [hn] at CX
    have CM1 := hid CX
    have HNN := hid hn
    have RD1 : Hid ((wr.alloc (.cells #[.int .i64 0, .string ⟨#[]⟩, .string ⟨#[]⟩, .string ⟨#[]⟩, .int .i64 0, .string ⟨#[]⟩, .string ⟨#[]⟩, .string ⟨#[]⟩, .int .i64 0, .string ⟨#[]⟩, .string ⟨#[]⟩, .string ⟨#[]⟩, .int .i64 0, .string ⟨#[]⟩, .string ⟨#[]⟩, .string ⟨#[]⟩] 36)).drew.rangeAt b1 o1 (quadC x)) := hid (range_below (range_below HR1.out HB.out) (((Below.refl _ _).alloc (Nat.le_refl _) _).drew))
    have RD2 : Hid ((wr.alloc (.cells #[.int .i64 0, .string ⟨#[]⟩, .string ⟨#[]⟩, .string ⟨#[]⟩, .int .i64 0, .string ⟨#[]⟩, .string ⟨#[]⟩, .string ⟨#[]⟩, .int .i64 0, .string ⟨#[]⟩, .string ⟨#[]⟩, .string ⟨#[]⟩, .int .i64 0, .string ⟨#[]⟩, .string ⟨#[]⟩, .string ⟨#[]⟩] 36)).drew.rangeAt b2 o2 (quadC y)) := hid (range_below (range_below HR2.out HB.out) (((Below.refl _ _).alloc (Nat.le_refl _) _).drew))
    clear CX hn
    subst hav hbv
    by_cases n0 : n <= 0
    ·have q8 : decide (n <= 0) = true := decide_eq_true n0
     have HJ : Hid (joinR none as0 bs0 = doneQ done x ++ joinR (doneQ done x).getLast? ls (y :: rs)) := hid (by rw [HM.out]; exact joinR_a done x ls (y :: rs) (.inr ⟨y, rs, rfl, by rw [HNN.out]; exact n0⟩))
     clear HM n0
     go_wp2_with fail
     refine region_still 14 (by kernel_rfl) (by kernel_rfl) ?_
     simp only [List.take_succ_cons, List.take_zero, List.drop_succ_cons, List.drop_zero]
     repeat (first | (refine still_load_quadG (.tmp 24) rfl ?hw4 b1 o1 rfl x RD1.out ?_; (case hw4 => first | rfl | go_simp)) | (refine still_load_quadG (.tmp 27) rfl ?hw5 b2 o2 rfl y RD2.out ?_; (case hw5 => first | rfl | go_simp)) | still_step)
     refine wpStill_nil ?_
     obtain ⟨g, hgz⟩ : ∃ g, wr.heap.size = g := ⟨_, rfl⟩
     have hgsz := hid hgz.symm
     have HGZ := hid hgz
     have hgw : w.heap.size <= g := by rw [<- hgz]; exact HB.out.size
     clear hgz
     go_upto_region 5 with (go_at_call 57; (with_reducible refine (CM1.out _).mono ?_); rintro e V ⟨rfl, hb3⟩; have HG := hid ((hb3.block wr.heap.size (by simp)).trans (heap_alloc_new wr (.cells #[.int .i64 0, .string ⟨#[]⟩, .string ⟨#[]⟩, .string ⟨#[]⟩, .int .i64 0, .string ⟨#[]⟩, .string ⟨#[]⟩, .string ⟨#[]⟩, .int .i64 0, .string ⟨#[]⟩, .string ⟨#[]⟩, .string ⟨#[]⟩, .int .i64 0, .string ⟨#[]⟩, .string ⟨#[]⟩, .string ⟨#[]⟩] 36))); have HBx := hid ((((Below.refl _ wr).alloc (Nat.le_refl _) (.cells #[.int .i64 0, .string ⟨#[]⟩, .string ⟨#[]⟩, .string ⟨#[]⟩, .int .i64 0, .string ⟨#[]⟩, .string ⟨#[]⟩, .string ⟨#[]⟩, .int .i64 0, .string ⟨#[]⟩, .string ⟨#[]⟩, .string ⟨#[]⟩, .int .i64 0, .string ⟨#[]⟩, .string ⟨#[]⟩, .string ⟨#[]⟩] 36)).drew).trans (hb3.mono (by simp))); have RQ := hid (range_below RD1.out hb3); clear hb3)
     rw [HGZ.out] at HG HBx ⊢
     go_upto_region 6 with (first | (refine wpList_load_quad rfl (.tmp 34) rfl b1 o1 rfl x RQ.out ?_) | (refine wpList_store_quad rfl (.tmp 6) (.tmp 35) rfl _ rfl x rfl ?T1 ?o1 ?hs1 ?hg1 ?_; (case hg1 => exact HG.out); (case hs1 => rfl); go_frame))
     have RB : Hid ((V.setRow g (quadC x).toArray).rangeAt g 0 (quadC x)) := hid (range_row (setRow_heap _ g _ (quadC x).toArray 36 (0, 0) HG.out))
     have HBy : Below g wr (V.setRow g (quadC x).toArray) := HBx.out.trans ⟨rfl, rfl, rfl, by simp, fun k hk => setRow_other V g k _ (by omega)⟩
     have HB5 : Hid (Below w.heap.size w (V.setRow g (quadC x).toArray)) := hid (HB.out.trans (HBy.mono hgw))
     have HO5 : Hid (QOwn w.heap.size u5 done (V.setRow g (quadC x).toArray)) := hid (HO.out.below (hgsz.out ▸ HBy))
     clear HBy
     generalize V.setRow g (quadC x).toArray = WS at RB HB5 HO5 ⊢
     clear HG HBx RQ
     go_wp2_with fail
     rcases List.eq_nil_or_concat done with hd0 | ⟨ds, z, hd0⟩
     ·have HN : Hid (joinR none as0 bs0 = (done ++ [x]) ++ joinR (done ++ [x]).getLast? (ls) (y :: rs)) := hid (by rw [HJ.out, show doneQ done x = done ++ [x] by rw [hd0]; rfl])
      have hl0 : done.length = 0 := by rw [hd0]; rfl
      clear HJ hd0
      obtain ⟨va, vc, hov⟩ := HO5.out.view.form'
      rw [hl0] at hov
      subst hov
      go_quiet (fail)
      have HB6 : Hid (Below w.heap.size w (WS.drewN nq)) := hid (below_drewN HB5.out nq)
      have HO6 : Hid (QOwn w.heap.size (.slice va 0 vc) done (WS.drewN nq)) := hid (show QOwn w.heap.size (.slice va 0 vc) done (WS.drewN nq) from HO5.out)
      have RB9 : Hid ((WS.drewN nq).rangeAt g 0 (quadC x)) := hid (show WS.rangeAt g 0 (quadC x) from RB.out)
      generalize WS.drewN nq = WT at HB6 HO6 RB9 ⊢
      go_wp2_with (first | (refine wpList_load_quad rfl (.tmp 6) rfl g 0 rfl x RB9.out ?_) | (refine wpList_build1c rfl (.tmp 58) rfl x rfl ?_) | (at_builtin; refine wpList_append_quad rfl (.tmp 57) (.tmp 59) rfl w.heap.size _ done rfl _ HO6.out x 36 rfl rfl (by omega) w HB6.out HB6.out.size ?_; intro v6 w6 ho6 hb6; have HO9 := hid ho6; have HB9 := hid hb6; clear ho6 hb6))
      try (go_frame; go_wp2_with fail)
      go_roundw
      case rel => exact ⟨ls, y :: rs, done ++ [x], HTA, HVB, HO9, HB9, by simp at hlen ⊢; omega, hid ⟨by simp at l0 ⊢ <;> omega, by simp at l1 ⊢ <;> omega⟩, HN⟩
      case measure =>
       have la1 : lenV (tailQ b1 o1 (ls.length + 1) k1) = ls.length := HTA.out.len
       simp only [la1]
       simp [lenV]
     ·have HN0 : Hid (doneQ done x = if decide (cmpQ z x < 0) then done ++ [x] else done) := hid (by unfold doneQ goesB; rw [hd0]; simp)
      have hld : done.length = ds.length + 1 := by rw [hd0]; simp
      have hld2 : ds.length <= 4194304 := by omega
      obtain ⟨va, vc, hov⟩ := HO5.out.view.form'
      have hvw := HO5.out.view
      subst hov
      obtain ⟨b9, o9, rfl⟩ := hvw.place1 (by omega)
      have hz := hvw.get1 (k := ds.length) (by omega)
      rw [show done[ds.length]'(by omega) = z by simp [hd0]] at hz
      have RZ : Hid (WS.drew.rangeAt b9 (o9 + ds.length * 16) (quadC z)) := hid hz
      have RB1 : Hid (WS.drew.rangeAt g 0 (quadC x)) := hid (show WS.rangeAt g 0 (quadC x) from RB.out)
      obtain ⟨k, hkk⟩ : ∃ k, ds.length = k := ⟨_, rfl⟩
      rw [hkk] at RZ hld hld2
      clear hvw hz hd0 hkk
      have hldn := hld
      obtain ⟨N, eN⟩ : ∃ N, done.length = N := ⟨_, rfl⟩
      rw [eN] at hld
      have W1 : IntKind.i64.wrap (k : Int) = (k : Int) := IntWalk.i64_in _ (by omega)
      have W2 : IntKind.i64.wrap ((N : Int) - 1) = (k : Int) := by rw [show (N : Int) - 1 = k by omega]; exact W1
      have hm3 : (0 : Int) <= (k : Int) := by omega
      have hkN : k < N := by omega
      have hkI : (k : Int) < (N : Int) := by omega
      have z9 : ((N : Int) == 0) = false := beq_eq_false_iff_ne.2 (by omega)
      have HLN := hid eN
      have hle : done.length <= 4194304 := by omega
      obtain ⟨n2, hn2⟩ : ∃ n, cmpQ z x = n := ⟨_, rfl⟩
      have CX := CM.out z x
      rw [hn2] at CX HN0
      have CM2 := hid CX
      clear CX hn2
      have HO5n := hid (show QOwn w.heap.size (.slice (some ⟨b9, o9, none⟩) N vc) done WS by rw [<- eN]; exact HO5.out)
      clear HO5
      have HO5 := HO5n
      clear HO5n
      rw [eN]
      clear hld hldn eN T1 T2 q0 zb1 pb1 za1 pa1
      by_cases t2 : n2 < 0
      ·have q7 : decide (n2 < 0) = true := decide_eq_true t2
       have HN : Hid (joinR none as0 bs0 = (done ++ [x]) ++ joinR (done ++ [x]).getLast? (ls) (y :: rs)) := hid (by rw [HJ.out, HN0.out, if_pos q7])
       clear HJ HN0 t2
       refine region_still 11 (by kernel_rfl) (by kernel_rfl) ?_
       simp only [List.take_succ_cons, List.take_zero, List.drop_succ_cons, List.drop_zero]
       repeat (first | (refine still_load_quadG (.tmp 51) rfl ?hw8 b9 (o9 + k * 16) rfl z RZ.out ?_; (case hw8 => first | rfl | go_simp)) | (refine still_load_quadG (.tmp 6) rfl ?hw9 g 0 rfl x RB1.out ?_; (case hw9 => first | rfl | go_simp)) | still_step)
       refine wpStill_nil ?_
       clear W1 W2
       go_wp2_with (first | (go_at_call 57; (with_reducible refine (CM2.out _).mono ?_); rintro e w8 ⟨rfl, hb8⟩; have HB8 := hid hb8; have HB6 := hid (HB5.out.trans (((below_drewN (Below.refl _ WS) 1).trans hb8).mono HB5.out.size)); have HO6 := hid (HO5.out.below ((below_drewN (Below.refl _ WS) 1).trans hb8)); have RB9 := hid (range_below RB1.out hb8); clear hb8) | (refine wpList_load_quad rfl (.tmp 6) rfl g 0 rfl x RB9.out ?_) | (refine wpList_build1c rfl (.tmp 58) rfl x rfl ?_) | (at_builtin; refine wpList_append_quad rfl (.tmp 57) (.tmp 59) rfl w.heap.size _ done rfl _ HO6.out x 36 rfl rfl (by omega) w HB6.out HB6.out.size ?_; intro v6 w6 ho6 hb6; have HO9 := hid ho6; have HB9 := hid hb6; clear ho6 hb6))
       try (go_frame; go_wp2_with fail)
       go_roundw
       case rel => exact ⟨ls, y :: rs, done ++ [x], HTA, HVB, HO9, HB9, by simp at hlen ⊢; omega, hid ⟨by simp at l0 ⊢ <;> omega, by simp at l1 ⊢ <;> omega⟩, HN⟩
       case measure =>
        have la1 : lenV (tailQ b1 o1 (ls.length + 1) k1) = ls.length := HTA.out.len
        simp only [la1]
        simp [lenV]
      ·have q7 : decide (n2 < 0) = false := decide_eq_false t2
       have HN : Hid (joinR none as0 bs0 = done ++ joinR done.getLast? (ls) (y :: rs)) := hid (by rw [HJ.out, HN0.out, if_neg (by rw [q7]; simp)])
       clear HJ HN0 t2
       refine region_still 11 (by kernel_rfl) (by kernel_rfl) ?_
       simp only [List.take_succ_cons, List.take_zero, List.drop_succ_cons, List.drop_zero]
       repeat (first | (refine still_load_quadG (.tmp 51) rfl ?hw8 b9 (o9 + k * 16) rfl z RZ.out ?_; (case hw8 => first | rfl | go_simp)) | (refine still_load_quadG (.tmp 6) rfl ?hw9 g 0 rfl x RB1.out ?_; (case hw9 => first | rfl | go_simp)) | still_step)
       refine wpStill_nil ?_
       clear W1 W2
       go_wp2_with (go_at_call 57; (with_reducible refine (CM2.out _).mono ?_); rintro e w8 ⟨rfl, hb8⟩; have HB8 := hid hb8; have HB6 := hid (HB5.out.trans (((below_drewN (Below.refl _ WS) 1).trans hb8).mono HB5.out.size)); have HO6 := hid (HO5.out.below ((below_drewN (Below.refl _ WS) 1).trans hb8)); have RB9 := hid (range_below RB1.out hb8); clear hb8)
       have HO9 := HO6
       have HB9 := HB6
       try (go_frame; go_wp2_with fail)
       go_roundw
       case rel => exact ⟨ls, y :: rs, done, HTA, HVB, HO9, HB9, by simp at hlen ⊢; omega, hid ⟨by simp at l0 ⊢ <;> omega, by simp at l1 ⊢ <;> omega⟩, HN⟩
       case measure =>
        have la1 : lenV (tailQ b1 o1 (ls.length + 1) k1) = ls.length := HTA.out.len
        simp only [la1]
        simp [lenV]
    ·have q8 : decide (n <= 0) = false := decide_eq_false n0
     have HJ : Hid (joinR none as0 bs0 = doneQ done y ++ joinR (doneQ done y).getLast? (x :: ls) rs) := hid (by rw [HM.out]; exact joinR_b done y (x :: ls) rs (.inr ⟨x, ls, rfl, by rw [HNN.out]; exact n0⟩))
     clear HM n0
     go_wp2_with fail
     refine region_still 14 (by kernel_rfl) (by kernel_rfl) ?_
     simp only [List.take_succ_cons, List.take_zero, List.drop_succ_cons, List.drop_zero]
     repeat (first | (refine still_load_quadG (.tmp 24) rfl ?hw4 b1 o1 rfl x RD1.out ?_; (case hw4 => first | rfl | go_simp)) | (refine still_load_quadG (.tmp 27) rfl ?hw5 b2 o2 rfl y RD2.out ?_; (case hw5 => first | rfl | go_simp)) | still_step)
     refine wpStill_nil ?_
     obtain ⟨g, hgz⟩ : ∃ g, wr.heap.size = g := ⟨_, rfl⟩
     have hgsz := hid hgz.symm
     have HGZ := hid hgz
     have hgw : w.heap.size <= g := by rw [<- hgz]; exact HB.out.size
     clear hgz
     go_upto_region 7 with (go_at_call 57; (with_reducible refine (CM1.out _).mono ?_); rintro e V ⟨rfl, hb3⟩; have HG := hid ((hb3.block wr.heap.size (by simp)).trans (heap_alloc_new wr (.cells #[.int .i64 0, .string ⟨#[]⟩, .string ⟨#[]⟩, .string ⟨#[]⟩, .int .i64 0, .string ⟨#[]⟩, .string ⟨#[]⟩, .string ⟨#[]⟩, .int .i64 0, .string ⟨#[]⟩, .string ⟨#[]⟩, .string ⟨#[]⟩, .int .i64 0, .string ⟨#[]⟩, .string ⟨#[]⟩, .string ⟨#[]⟩] 36))); have HBx := hid ((((Below.refl _ wr).alloc (Nat.le_refl _) (.cells #[.int .i64 0, .string ⟨#[]⟩, .string ⟨#[]⟩, .string ⟨#[]⟩, .int .i64 0, .string ⟨#[]⟩, .string ⟨#[]⟩, .string ⟨#[]⟩, .int .i64 0, .string ⟨#[]⟩, .string ⟨#[]⟩, .string ⟨#[]⟩, .int .i64 0, .string ⟨#[]⟩, .string ⟨#[]⟩, .string ⟨#[]⟩] 36)).drew).trans (hb3.mono (by simp))); have RQ := hid (range_below RD2.out hb3); clear hb3)
     rw [HGZ.out] at HG HBx ⊢
     go_upto_region 8 with (first | (refine wpList_load_quad rfl (.tmp 39) rfl b2 o2 rfl y RQ.out ?_) | (refine wpList_store_quad rfl (.tmp 6) (.tmp 40) rfl _ rfl y rfl ?T1 ?o1 ?hs1 ?hg1 ?_; (case hg1 => exact HG.out); (case hs1 => rfl); go_frame))
     have RB : Hid ((V.setRow g (quadC y).toArray).rangeAt g 0 (quadC y)) := hid (range_row (setRow_heap _ g _ (quadC y).toArray 36 (0, 0) HG.out))
     have HBy : Below g wr (V.setRow g (quadC y).toArray) := HBx.out.trans ⟨rfl, rfl, rfl, by simp, fun k hk => setRow_other V g k _ (by omega)⟩
     have HB5 : Hid (Below w.heap.size w (V.setRow g (quadC y).toArray)) := hid (HB.out.trans (HBy.mono hgw))
     have HO5 : Hid (QOwn w.heap.size u5 done (V.setRow g (quadC y).toArray)) := hid (HO.out.below (hgsz.out ▸ HBy))
     clear HBy
     generalize V.setRow g (quadC y).toArray = WS at RB HB5 HO5 ⊢
     clear HG HBx RQ
     go_wp2_with fail
     rcases List.eq_nil_or_concat done with hd0 | ⟨ds, z, hd0⟩
     ·have HN : Hid (joinR none as0 bs0 = (done ++ [y]) ++ joinR (done ++ [y]).getLast? (x :: ls) (rs)) := hid (by rw [HJ.out, show doneQ done y = done ++ [y] by rw [hd0]; rfl])
      have hl0 : done.length = 0 := by rw [hd0]; rfl
      clear HJ hd0
      obtain ⟨va, vc, hov⟩ := HO5.out.view.form'
      rw [hl0] at hov
      subst hov
      go_quiet (fail)
      have HB6 : Hid (Below w.heap.size w (WS.drewN nq)) := hid (below_drewN HB5.out nq)
      have HO6 : Hid (QOwn w.heap.size (.slice va 0 vc) done (WS.drewN nq)) := hid (show QOwn w.heap.size (.slice va 0 vc) done (WS.drewN nq) from HO5.out)
      have RB9 : Hid ((WS.drewN nq).rangeAt g 0 (quadC y)) := hid (show WS.rangeAt g 0 (quadC y) from RB.out)
      generalize WS.drewN nq = WT at HB6 HO6 RB9 ⊢
      go_wp2_with (first | (refine wpList_load_quad rfl (.tmp 6) rfl g 0 rfl y RB9.out ?_) | (refine wpList_build1c rfl (.tmp 58) rfl y rfl ?_) | (at_builtin; refine wpList_append_quad rfl (.tmp 57) (.tmp 59) rfl w.heap.size _ done rfl _ HO6.out y 36 rfl rfl (by omega) w HB6.out HB6.out.size ?_; intro v6 w6 ho6 hb6; have HO9 := hid ho6; have HB9 := hid hb6; clear ho6 hb6))
      try (go_frame; go_wp2_with fail)
      go_roundw
      case rel => exact ⟨x :: ls, rs, done ++ [y], HVA, HTB, HO9, HB9, by simp at hlen ⊢; omega, hid ⟨by simp at l0 ⊢ <;> omega, by simp at l1 ⊢ <;> omega⟩, HN⟩
      case measure =>
       have la2 : lenV (tailQ b2 o2 (rs.length + 1) k2) = rs.length := HTB.out.len
       simp only [la2]
       simp [lenV]
     ·have HN0 : Hid (doneQ done y = if decide (cmpQ z y < 0) then done ++ [y] else done) := hid (by unfold doneQ goesB; rw [hd0]; simp)
      have hld : done.length = ds.length + 1 := by rw [hd0]; simp
      have hld2 : ds.length <= 4194304 := by omega
      obtain ⟨va, vc, hov⟩ := HO5.out.view.form'
      have hvw := HO5.out.view
      subst hov
      obtain ⟨b9, o9, rfl⟩ := hvw.place1 (by omega)
      have hz := hvw.get1 (k := ds.length) (by omega)
      rw [show done[ds.length]'(by omega) = z by simp [hd0]] at hz
      have RZ : Hid (WS.drew.rangeAt b9 (o9 + ds.length * 16) (quadC z)) := hid hz
      have RB1 : Hid (WS.drew.rangeAt g 0 (quadC y)) := hid (show WS.rangeAt g 0 (quadC y) from RB.out)
      obtain ⟨k, hkk⟩ : ∃ k, ds.length = k := ⟨_, rfl⟩
      rw [hkk] at RZ hld hld2
      clear hvw hz hd0 hkk
      have hldn := hld
      obtain ⟨N, eN⟩ : ∃ N, done.length = N := ⟨_, rfl⟩
      rw [eN] at hld
      have W1 : IntKind.i64.wrap (k : Int) = (k : Int) := IntWalk.i64_in _ (by omega)
      have W2 : IntKind.i64.wrap ((N : Int) - 1) = (k : Int) := by rw [show (N : Int) - 1 = k by omega]; exact W1
      have hm3 : (0 : Int) <= (k : Int) := by omega
      have hkN : k < N := by omega
      have hkI : (k : Int) < (N : Int) := by omega
      have z9 : ((N : Int) == 0) = false := beq_eq_false_iff_ne.2 (by omega)
      have HLN := hid eN
      have hle : done.length <= 4194304 := by omega
      obtain ⟨n2, hn2⟩ : ∃ n, cmpQ z y = n := ⟨_, rfl⟩
      have CX := CM.out z y
      rw [hn2] at CX HN0
      have CM2 := hid CX
      clear CX hn2
      have HO5n := hid (show QOwn w.heap.size (.slice (some ⟨b9, o9, none⟩) N vc) done WS by rw [<- eN]; exact HO5.out)
      clear HO5
      have HO5 := HO5n
      clear HO5n
      rw [eN]
      clear hld hldn eN T1 T2 q0 zb1 pb1 za1 pa1
      by_cases t2 : n2 < 0
      ·have q7 : decide (n2 < 0) = true := decide_eq_true t2
       have HN : Hid (joinR none as0 bs0 = (done ++ [y]) ++ joinR (done ++ [y]).getLast? (x :: ls) (rs)) := hid (by rw [HJ.out, HN0.out, if_pos q7])
       clear HJ HN0 t2
       refine region_still 11 (by kernel_rfl) (by kernel_rfl) ?_
       simp only [List.take_succ_cons, List.take_zero, List.drop_succ_cons, List.drop_zero]
       repeat (first | (refine still_load_quadG (.tmp 51) rfl ?hw8 b9 (o9 + k * 16) rfl z RZ.out ?_; (case hw8 => first | rfl | go_simp)) | (refine still_load_quadG (.tmp 6) rfl ?hw9 g 0 rfl y RB1.out ?_; (case hw9 => first | rfl | go_simp)) | still_step)
       refine wpStill_nil ?_
       clear W1 W2
       go_wp2_with (first | (go_at_call 57; (with_reducible refine (CM2.out _).mono ?_); rintro e w8 ⟨rfl, hb8⟩; have HB8 := hid hb8; have HB6 := hid (HB5.out.trans (((below_drewN (Below.refl _ WS) 1).trans hb8).mono HB5.out.size)); have HO6 := hid (HO5.out.below ((below_drewN (Below.refl _ WS) 1).trans hb8)); have RB9 := hid (range_below RB1.out hb8); clear hb8) | (refine wpList_load_quad rfl (.tmp 6) rfl g 0 rfl y RB9.out ?_) | (refine wpList_build1c rfl (.tmp 58) rfl y rfl ?_) | (at_builtin; refine wpList_append_quad rfl (.tmp 57) (.tmp 59) rfl w.heap.size _ done rfl _ HO6.out y 36 rfl rfl (by omega) w HB6.out HB6.out.size ?_; intro v6 w6 ho6 hb6; have HO9 := hid ho6; have HB9 := hid hb6; clear ho6 hb6))
       try (go_frame; go_wp2_with fail)
       go_roundw
       case rel => exact ⟨x :: ls, rs, done ++ [y], HVA, HTB, HO9, HB9, by simp at hlen ⊢; omega, hid ⟨by simp at l0 ⊢ <;> omega, by simp at l1 ⊢ <;> omega⟩, HN⟩
       case measure =>
        have la2 : lenV (tailQ b2 o2 (rs.length + 1) k2) = rs.length := HTB.out.len
        simp only [la2]
        simp [lenV]
      ·have q7 : decide (n2 < 0) = false := decide_eq_false t2
       have HN : Hid (joinR none as0 bs0 = done ++ joinR done.getLast? (x :: ls) (rs)) := hid (by rw [HJ.out, HN0.out, if_neg (by rw [q7]; simp)])
       clear HJ HN0 t2
       refine region_still 11 (by kernel_rfl) (by kernel_rfl) ?_
       simp only [List.take_succ_cons, List.take_zero, List.drop_succ_cons, List.drop_zero]
       repeat (first | (refine still_load_quadG (.tmp 51) rfl ?hw8 b9 (o9 + k * 16) rfl z RZ.out ?_; (case hw8 => first | rfl | go_simp)) | (refine still_load_quadG (.tmp 6) rfl ?hw9 g 0 rfl y RB1.out ?_; (case hw9 => first | rfl | go_simp)) | still_step)
       refine wpStill_nil ?_
       clear W1 W2
       go_wp2_with (go_at_call 57; (with_reducible refine (CM2.out _).mono ?_); rintro e w8 ⟨rfl, hb8⟩; have HB8 := hid hb8; have HB6 := hid (HB5.out.trans (((below_drewN (Below.refl _ WS) 1).trans hb8).mono HB5.out.size)); have HO6 := hid (HO5.out.below ((below_drewN (Below.refl _ WS) 1).trans hb8)); have RB9 := hid (range_below RB1.out hb8); clear hb8)
       have HO9 := HO6
       have HB9 := HB6
       try (go_frame; go_wp2_with fail)
       go_roundw
       case rel => exact ⟨x :: ls, rs, done, HVA, HTB, HO9, HB9, by simp at hlen ⊢; omega, hid ⟨by simp at l0 ⊢ <;> omega, by simp at l1 ⊢ <;> omega⟩, HN⟩
       case measure =>
        have la2 : lenV (tailQ b2 o2 (rs.length + 1) k2) = rs.length := HTB.out.len
        simp only [la2]
        simp [lenV]
end Go.Proofs.YtdegonmkikfghaaGreatDoor
