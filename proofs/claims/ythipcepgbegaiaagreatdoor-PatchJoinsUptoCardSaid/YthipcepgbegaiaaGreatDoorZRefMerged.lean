/-
  The reference's merged: contract. By an AI agent.
-/
import Derived.Test.YthipcepgbegaiaaGreatDoorZRefMM
import Derived.Deep.Cut
namespace Go.Proofs.YthipcepgbegaiaaGreatDoor
open Go.RowKit
set_option maxRecDepth 100000
/-- does a quad go behind what has come last? -/
def goesB (l : Option QuadL) (q : QuadL) : Bool := match l with
  | none => true
  | some x => decide (cmpQ x q < 0)
def doneQ (done : List QuadL) (q : QuadL) : List QuadL := if goesB done.getLast? q then done ++ [q] else done
theorem joinR_a (done : List QuadL) (x : QuadL) (ls rs : List QuadL) (h : rs = [] ∨ ∃ y ys, rs = y :: ys ∧ cmpQ x y ≤ 0) : done ++ joinR done.getLast? (x :: ls) rs = doneQ done x ++ joinR (doneQ done x).getLast? ls rs := by
  have key : joinR done.getLast? (x :: ls) rs = joinR.putR done.getLast? x (joinR (some x) ls rs) (joinR done.getLast? ls rs) := by
    rcases h with rfl | ⟨y, ys, rfl, hc⟩
    · rw [joinR]
    · rw [joinR, if_pos hc]
  rw [key]
  unfold doneQ goesB joinR.putR
  cases hl : done.getLast? with
  | none => simp
  | some z =>
    by_cases hz : cmpQ z x < 0
    · simp [hz]
    · simp [hz, hl]
theorem joinR_b (done : List QuadL) (y : QuadL) (ls rs : List QuadL) (h : ls = [] ∨ ∃ x xs, ls = x :: xs ∧ ¬ cmpQ x y ≤ 0) : done ++ joinR done.getLast? ls (y :: rs) = doneQ done y ++ joinR (doneQ done y).getLast? ls rs := by
  have key : joinR done.getLast? ls (y :: rs) = joinR.putR done.getLast? y (joinR (some y) ls rs) (joinR done.getLast? ls rs) := by
    rcases h with rfl | ⟨x, xs, rfl, hc⟩
    · rw [joinR]
    · rw [joinR, if_neg hc]
  rw [key]
  unfold doneQ goesB joinR.putR
  cases hl : done.getLast? with
  | none => simp
  | some z =>
    by_cases hz : cmpQ z y < 0
    · simp [hz]
    · simp [hz, hl]
theorem joinR_nil (l : Option QuadL) : joinR l [] [] = [] := by rw [joinR]
end Go.Proofs.YthipcepgbegaiaaGreatDoor

/-
  The reference's merged: contract. By an AI agent.
-/
namespace Go.Proofs.YthipcepgbegaiaaGreatDoor
open Go.RowKit
set_option maxRecDepth 100000
set_option maxHeartbeats 8000000 in
theorem refMerged_l (as0 bs0 : List QuadL) (v0 v1 : Value) (w : World) (h0 : QView w v0 as0) (h1 : QView w v1 bs0) (n0 : as0.length ≤ 2097152) (n1 : bs0.length ≤ 2097152) :
    Calls Tryz.prog 87 #[v0, v1] w fun e w' => ∃ v, e = .returned v ∧ QOwn w.heap.size v (joinR none as0 bs0) w' ∧ Below w.heap.size w w' := by
  have CM := Lib.hid (fun (x y : QuadL) (u : World) => refCompareQuads_l x y u)
  obtain ⟨pa, ca, rfl⟩ := h0.form'
  obtain ⟨pb, cb, rfl⟩ := h1.form'
  have HA := Lib.hid h0
  have HBV := Lib.hid h1
  clear h0 h1
  go_enter Tryz.func87, Tryz.ntmps87
  go_wp2_with fail
  go_loopw [0, 1, 5] (fun av bv ov wr => ∃ (ls rs done : List QuadL), Hid (QView w av ls) ∧ Hid (QView w bv rs) ∧ Hid (QOwn w.heap.size ov done wr) ∧ Hid (Below w.heap.size w wr) ∧ done.length + ls.length + rs.length ≤ as0.length + bs0.length ∧ Hid (ls.length ≤ 2097152 ∧ rs.length ≤ 2097152) ∧ Hid (joinR none as0 bs0 = done ++ joinR done.getLast? ls rs)) (fun av bv _ _ => lenV av + lenV bv)
  case atStart => exact ⟨as0, bs0, [], HA, HBV, Lib.hid (QOwn.nil _ _), Lib.hid (Below.refl _ _), by simp, Lib.hid ⟨n0, n1⟩, Lib.hid rfl⟩
  case round =>
    obtain ⟨ls, rs, done, HVA, HVB, HO, HB, hlen, HL, HM⟩ := hrel
    clear HA HBV
    obtain ⟨l0, l1⟩ := HL.out
    rcases ls with _ | ⟨x, ls⟩
    · obtain ⟨ra, ca2, hav⟩ := HVA.out.empty
      rcases rs with _ | ⟨y, rs⟩
      · obtain ⟨rb, cb2, hbv⟩ := HVB.out.empty
        have HE : Hid (joinR none as0 bs0 = done) := Lib.hid (by rw [HM.out, joinR_nil, List.append_nil])
        clear HM CM HL
        subst hav hbv
        go_wp2_with fail
        go_ret
        exact ⟨_, rfl, by rw [HE.out]; exact HO.out, HB.out⟩
      · have lb : rs.length ≤ 2097152 := by simp at l1; omega
        have pb1 : (0 : Int) < (rs.length : Int) + 1 := by omega
        have zb1 : ((rs.length : Int) + 1 == 0) = false := beq_eq_false_iff_ne.2 (by omega)
        obtain ⟨b2, o2, k2, hbv, hk2, hr2, htb⟩ := HVB.out.cons
        have HR2 := Lib.hid hr2
        have HTB := Lib.hid htb
        clear hr2 htb
        have HJ : Hid (joinR none as0 bs0 = doneQ done y ++ joinR (doneQ done y).getLast? [] rs) := Lib.hid (by rw [HM.out]; exact joinR_b done y [] rs (.inl rfl))
        clear HM
        have T2 := run_tailQ b2 o2 (rs.length + 1) k2 (by omega)
        have q0 : decide ((0 : Int) < 0) = false := rfl
        subst hav hbv
        go_wp2_with fail
        go_quiet (fail)
        have hg0 : ((wr.alloc (.cells #[.int .i64 0, .string ⟨#[]⟩, .string ⟨#[]⟩, .string ⟨#[]⟩, .int .i64 0, .string ⟨#[]⟩, .string ⟨#[]⟩, .string ⟨#[]⟩, .int .i64 0, .string ⟨#[]⟩, .string ⟨#[]⟩, .string ⟨#[]⟩, .int .i64 0, .string ⟨#[]⟩, .string ⟨#[]⟩, .string ⟨#[]⟩] 68)).drewN nq).heap[wr.heap.size]? = some (.cells #[.int .i64 0, .string ⟨#[]⟩, .string ⟨#[]⟩, .string ⟨#[]⟩, .int .i64 0, .string ⟨#[]⟩, .string ⟨#[]⟩, .string ⟨#[]⟩, .int .i64 0, .string ⟨#[]⟩, .string ⟨#[]⟩, .string ⟨#[]⟩, .int .i64 0, .string ⟨#[]⟩, .string ⟨#[]⟩, .string ⟨#[]⟩] 68 (0, 0)) := heap_alloc_new wr _
        have HBx : Hid (Below wr.heap.size wr ((wr.alloc (.cells #[.int .i64 0, .string ⟨#[]⟩, .string ⟨#[]⟩, .string ⟨#[]⟩, .int .i64 0, .string ⟨#[]⟩, .string ⟨#[]⟩, .string ⟨#[]⟩, .int .i64 0, .string ⟨#[]⟩, .string ⟨#[]⟩, .string ⟨#[]⟩, .int .i64 0, .string ⟨#[]⟩, .string ⟨#[]⟩, .string ⟨#[]⟩] 68)).drewN nq)) := Lib.hid (below_drewN ((Below.refl _ _).alloc (Nat.le_refl _) _) nq)
        have RQ : Hid (((wr.alloc (.cells #[.int .i64 0, .string ⟨#[]⟩, .string ⟨#[]⟩, .string ⟨#[]⟩, .int .i64 0, .string ⟨#[]⟩, .string ⟨#[]⟩, .string ⟨#[]⟩, .int .i64 0, .string ⟨#[]⟩, .string ⟨#[]⟩, .string ⟨#[]⟩, .int .i64 0, .string ⟨#[]⟩, .string ⟨#[]⟩, .string ⟨#[]⟩] 68)).drewN nq).rangeAt b2 o2 (quadC y)) := Lib.hid (range_below (range_below HR2.out HB.out) HBx.out)
        obtain ⟨g, hgz⟩ : ∃ g, wr.heap.size = g := ⟨_, rfl⟩
        have hgsz := Lib.hid hgz.symm
        have hgw : w.heap.size ≤ g := by rw [← hgz]; exact HB.out.size
        rw [hgz] at hg0 HBx ⊢
        clear hgz
        generalize (wr.alloc (.cells #[.int .i64 0, .string ⟨#[]⟩, .string ⟨#[]⟩, .string ⟨#[]⟩, .int .i64 0, .string ⟨#[]⟩, .string ⟨#[]⟩, .string ⟨#[]⟩, .int .i64 0, .string ⟨#[]⟩, .string ⟨#[]⟩, .string ⟨#[]⟩, .int .i64 0, .string ⟨#[]⟩, .string ⟨#[]⟩, .string ⟨#[]⟩] 68)).drewN nq = V at hg0 HBx RQ ⊢
        have HG := Lib.hid hg0
        clear hg0
        go_upto_region 8 with (first | (refine wpList_load_quad rfl (.tmp 39) rfl b2 o2 rfl y RQ.out ?_) | (refine wpList_store_quad rfl (.tmp 6) (.tmp 40) rfl _ rfl y rfl ?T1 ?o1 ?hs1 ?hg1 ?_; (case hg1 => exact HG.out); (case hs1 => rfl); go_frame))
        have RB : Hid ((V.setRow g (quadC y).toArray).rangeAt g 0 (quadC y)) := Lib.hid (range_row (setRow_heap _ g _ (quadC y).toArray 68 (0, 0) HG.out))
        have HBy : Below g wr (V.setRow g (quadC y).toArray) := HBx.out.trans ⟨rfl, rfl, rfl, by simp, fun k hk => setRow_other V g k _ (by omega)⟩
        have HB5 : Hid (Below w.heap.size w (V.setRow g (quadC y).toArray)) := Lib.hid (HB.out.trans (HBy.mono hgw))
        have HO5 : Hid (QOwn w.heap.size u5 done (V.setRow g (quadC y).toArray)) := Lib.hid (HO.out.below (hgsz.out ▸ HBy))
        clear HBy
        generalize V.setRow g (quadC y).toArray = WS at RB HB5 HO5 ⊢
        clear HG HBx RQ
        go_wp2_with fail
        rcases List.eq_nil_or_concat done with hd0 | ⟨ds, z, hd0⟩
        · have HN : Hid (joinR none as0 bs0 = (done ++ [y]) ++ joinR (done ++ [y]).getLast? ([]) (rs)) := Lib.hid (by rw [HJ.out, show doneQ done y = done ++ [y] by rw [hd0]; rfl])
          have hl0 : done.length = 0 := by rw [hd0]; rfl
          clear HJ hd0
          obtain ⟨va, vc, hov⟩ := HO5.out.view.form'
          rw [hl0] at hov
          subst hov
          go_quiet (fail)
          have HB6 : Hid (Below w.heap.size w (WS.drewN nq)) := Lib.hid (below_drewN HB5.out nq)
          have HO6 : Hid (QOwn w.heap.size (.slice va 0 vc) done (WS.drewN nq)) := Lib.hid (show QOwn w.heap.size (.slice va 0 vc) done (WS.drewN nq) from HO5.out)
          have RB9 : Hid ((WS.drewN nq).rangeAt g 0 (quadC y)) := Lib.hid (show WS.rangeAt g 0 (quadC y) from RB.out)
          generalize WS.drewN nq = WT at HB6 HO6 RB9 ⊢
          go_wp2_with (first | (refine wpList_load_quad rfl (.tmp 6) rfl g 0 rfl y RB9.out ?_) | (refine wpList_build1c rfl (.tmp 58) rfl y rfl ?_) | (at_builtin; refine wpList_append_quad rfl (.tmp 57) (.tmp 59) rfl w.heap.size _ done rfl _ HO6.out y 68 rfl rfl (by omega) w HB6.out HB6.out.size ?_; intro v6 w6 ho6 hb6; have HO9 := Lib.hid ho6; have HB9 := Lib.hid hb6; clear ho6 hb6))
          try (go_frame; go_wp2_with fail)
          go_roundw
          case rel => exact ⟨[], rs, done ++ [y], HVA, HTB, HO9, HB9, by simp at hlen ⊢; omega, Lib.hid ⟨by simp at l0 ⊢ <;> omega, by simp at l1 ⊢ <;> omega⟩, HN⟩
          case measure =>
            have la2 : lenV (tailQ b2 o2 (rs.length + 1) k2) = rs.length := HTB.out.len
            simp only [la2]
            simp [lenV]
        · have HN0 : Hid (doneQ done y = if decide (cmpQ z y < 0) then done ++ [y] else done) := Lib.hid (by unfold doneQ goesB; rw [hd0]; simp)
          have hld : done.length = ds.length + 1 := by rw [hd0]; simp
          have hld2 : ds.length ≤ 4194304 := by omega
          obtain ⟨va, vc, hov⟩ := HO5.out.view.form'
          have hvw := HO5.out.view
          subst hov
          obtain ⟨b9, o9, rfl⟩ := hvw.place1 (by omega)
          have hz := hvw.get1 (k := ds.length) (by omega)
          rw [show done[ds.length]'(by omega) = z by simp [hd0]] at hz
          have RZ : Hid (WS.drew.rangeAt b9 (o9 + ds.length * 16) (quadC z)) := Lib.hid hz
          have RB1 : Hid (WS.drew.rangeAt g 0 (quadC y)) := Lib.hid (show WS.rangeAt g 0 (quadC y) from RB.out)
          obtain ⟨k, hkk⟩ : ∃ k, ds.length = k := ⟨_, rfl⟩
          rw [hkk] at RZ hld hld2
          clear hvw hz hd0 hkk
          have hldn := hld
          obtain ⟨N, eN⟩ : ∃ N, done.length = N := ⟨_, rfl⟩
          rw [eN] at hld
          have W1 : IntKind.i64.wrap (k : Int) = (k : Int) := IntWalk.i64_in _ (by omega)
          have W2 : IntKind.i64.wrap ((N : Int) - 1) = (k : Int) := by rw [show (N : Int) - 1 = k by omega]; exact W1
          have hm3 : (0 : Int) ≤ (k : Int) := by omega
          have hkN : k < N := by omega
          have hkI : (k : Int) < (N : Int) := by omega
          have z9 : ((N : Int) == 0) = false := beq_eq_false_iff_ne.2 (by omega)
          have HLN := Lib.hid eN
          have hle : done.length ≤ 4194304 := by omega
          obtain ⟨n2, hn2⟩ : ∃ n, cmpQ z y = n := ⟨_, rfl⟩
          have CX := CM.out z y
          rw [hn2] at CX HN0
          have CM2 := Lib.hid CX
          clear CX hn2
          have HO5n := Lib.hid (show QOwn w.heap.size (.slice (some ⟨b9, o9, none⟩) N vc) done WS by rw [← eN]; exact HO5.out)
          clear HO5
          have HO5 := HO5n
          clear HO5n
          rw [eN]
          clear hld hldn eN T2 q0 zb1 pb1
          by_cases t2 : n2 < 0
          · have q7 : decide (n2 < 0) = true := decide_eq_true t2
            have HN : Hid (joinR none as0 bs0 = (done ++ [y]) ++ joinR (done ++ [y]).getLast? ([]) (rs)) := Lib.hid (by rw [HJ.out, HN0.out, if_pos q7])
            clear HJ HN0 t2
            refine region_still 11 (by kernel_rfl) (by kernel_rfl) ?_
            simp only [List.take_succ_cons, List.take_zero, List.drop_succ_cons, List.drop_zero]
            repeat (first | (refine still_load_quadG (.tmp 51) rfl ?hw8 b9 (o9 + k * 16) rfl z RZ.out ?_; (case hw8 => first | rfl | go_simp)) | (refine still_load_quadG (.tmp 6) rfl ?hw9 g 0 rfl y RB1.out ?_; (case hw9 => first | rfl | go_simp)) | still_step)
            refine wpStill_nil ?_
            clear W1 W2
            go_wp2_with (first | (go_at_call 63; (with_reducible refine (CM2.out _).mono ?_); rintro e w8 ⟨rfl, hb8⟩; have HB8 := Lib.hid hb8; have HB6 := Lib.hid (HB5.out.trans (((below_drewN (Below.refl _ WS) 1).trans hb8).mono HB5.out.size)); have HO6 := Lib.hid (HO5.out.below ((below_drewN (Below.refl _ WS) 1).trans hb8)); have RB9 := Lib.hid (range_below RB1.out hb8); clear hb8) | (refine wpList_load_quad rfl (.tmp 6) rfl g 0 rfl y RB9.out ?_) | (refine wpList_build1c rfl (.tmp 58) rfl y rfl ?_) | (at_builtin; refine wpList_append_quad rfl (.tmp 57) (.tmp 59) rfl w.heap.size _ done rfl _ HO6.out y 68 rfl rfl (by omega) w HB6.out HB6.out.size ?_; intro v6 w6 ho6 hb6; have HO9 := Lib.hid ho6; have HB9 := Lib.hid hb6; clear ho6 hb6))
            try (go_frame; go_wp2_with fail)
            go_roundw
            case rel => exact ⟨[], rs, done ++ [y], HVA, HTB, HO9, HB9, by simp at hlen ⊢; omega, Lib.hid ⟨by simp at l0 ⊢ <;> omega, by simp at l1 ⊢ <;> omega⟩, HN⟩
            case measure =>
              have la2 : lenV (tailQ b2 o2 (rs.length + 1) k2) = rs.length := HTB.out.len
              simp only [la2]
              simp [lenV]
          · have q7 : decide (n2 < 0) = false := decide_eq_false t2
            have HN : Hid (joinR none as0 bs0 = done ++ joinR done.getLast? ([]) (rs)) := Lib.hid (by rw [HJ.out, HN0.out, if_neg (by rw [q7]; simp)])
            clear HJ HN0 t2
            refine region_still 11 (by kernel_rfl) (by kernel_rfl) ?_
            simp only [List.take_succ_cons, List.take_zero, List.drop_succ_cons, List.drop_zero]
            repeat (first | (refine still_load_quadG (.tmp 51) rfl ?hw8 b9 (o9 + k * 16) rfl z RZ.out ?_; (case hw8 => first | rfl | go_simp)) | (refine still_load_quadG (.tmp 6) rfl ?hw9 g 0 rfl y RB1.out ?_; (case hw9 => first | rfl | go_simp)) | still_step)
            refine wpStill_nil ?_
            clear W1 W2
            go_wp2_with (go_at_call 63; (with_reducible refine (CM2.out _).mono ?_); rintro e w8 ⟨rfl, hb8⟩; have HB8 := Lib.hid hb8; have HB6 := Lib.hid (HB5.out.trans (((below_drewN (Below.refl _ WS) 1).trans hb8).mono HB5.out.size)); have HO6 := Lib.hid (HO5.out.below ((below_drewN (Below.refl _ WS) 1).trans hb8)); have RB9 := Lib.hid (range_below RB1.out hb8); clear hb8)
            have HO9 := HO6
            have HB9 := HB6
            try (go_frame; go_wp2_with fail)
            go_roundw
            case rel => exact ⟨[], rs, done, HVA, HTB, HO9, HB9, by simp at hlen ⊢; omega, Lib.hid ⟨by simp at l0 ⊢ <;> omega, by simp at l1 ⊢ <;> omega⟩, HN⟩
            case measure =>
              have la2 : lenV (tailQ b2 o2 (rs.length + 1) k2) = rs.length := HTB.out.len
              simp only [la2]
              simp [lenV]
    · have la : ls.length ≤ 2097152 := by simp at l0; omega
      have pa1 : (0 : Int) < (ls.length : Int) + 1 := by omega
      have za1 : ((ls.length : Int) + 1 == 0) = false := beq_eq_false_iff_ne.2 (by omega)
      obtain ⟨b1, o1, k1, hav, hk1, hr1, hta⟩ := HVA.out.cons
      have HR1 := Lib.hid hr1
      have HTA := Lib.hid hta
      clear hr1 hta
      have T1 := run_tailQ b1 o1 (ls.length + 1) k1 (by omega)
      have q0 : decide ((0 : Int) < 0) = false := rfl
      rcases rs with _ | ⟨y, rs⟩
      · obtain ⟨rb, cb2, hbv⟩ := HVB.out.empty
        have HJ : Hid (joinR none as0 bs0 = doneQ done x ++ joinR (doneQ done x).getLast? ls []) := Lib.hid (by rw [HM.out]; exact joinR_a done x ls [] (.inl rfl))
        clear HM
        subst hav hbv
        go_wp2_with fail
        go_quiet (fail)
        have hg0 : ((wr.alloc (.cells #[.int .i64 0, .string ⟨#[]⟩, .string ⟨#[]⟩, .string ⟨#[]⟩, .int .i64 0, .string ⟨#[]⟩, .string ⟨#[]⟩, .string ⟨#[]⟩, .int .i64 0, .string ⟨#[]⟩, .string ⟨#[]⟩, .string ⟨#[]⟩, .int .i64 0, .string ⟨#[]⟩, .string ⟨#[]⟩, .string ⟨#[]⟩] 68)).drewN nq).heap[wr.heap.size]? = some (.cells #[.int .i64 0, .string ⟨#[]⟩, .string ⟨#[]⟩, .string ⟨#[]⟩, .int .i64 0, .string ⟨#[]⟩, .string ⟨#[]⟩, .string ⟨#[]⟩, .int .i64 0, .string ⟨#[]⟩, .string ⟨#[]⟩, .string ⟨#[]⟩, .int .i64 0, .string ⟨#[]⟩, .string ⟨#[]⟩, .string ⟨#[]⟩] 68 (0, 0)) := heap_alloc_new wr _
        have HBx : Hid (Below wr.heap.size wr ((wr.alloc (.cells #[.int .i64 0, .string ⟨#[]⟩, .string ⟨#[]⟩, .string ⟨#[]⟩, .int .i64 0, .string ⟨#[]⟩, .string ⟨#[]⟩, .string ⟨#[]⟩, .int .i64 0, .string ⟨#[]⟩, .string ⟨#[]⟩, .string ⟨#[]⟩, .int .i64 0, .string ⟨#[]⟩, .string ⟨#[]⟩, .string ⟨#[]⟩] 68)).drewN nq)) := Lib.hid (below_drewN ((Below.refl _ _).alloc (Nat.le_refl _) _) nq)
        have RQ : Hid (((wr.alloc (.cells #[.int .i64 0, .string ⟨#[]⟩, .string ⟨#[]⟩, .string ⟨#[]⟩, .int .i64 0, .string ⟨#[]⟩, .string ⟨#[]⟩, .string ⟨#[]⟩, .int .i64 0, .string ⟨#[]⟩, .string ⟨#[]⟩, .string ⟨#[]⟩, .int .i64 0, .string ⟨#[]⟩, .string ⟨#[]⟩, .string ⟨#[]⟩] 68)).drewN nq).rangeAt b1 o1 (quadC x)) := Lib.hid (range_below (range_below HR1.out HB.out) HBx.out)
        obtain ⟨g, hgz⟩ : ∃ g, wr.heap.size = g := ⟨_, rfl⟩
        have hgsz := Lib.hid hgz.symm
        have hgw : w.heap.size ≤ g := by rw [← hgz]; exact HB.out.size
        rw [hgz] at hg0 HBx ⊢
        clear hgz
        generalize (wr.alloc (.cells #[.int .i64 0, .string ⟨#[]⟩, .string ⟨#[]⟩, .string ⟨#[]⟩, .int .i64 0, .string ⟨#[]⟩, .string ⟨#[]⟩, .string ⟨#[]⟩, .int .i64 0, .string ⟨#[]⟩, .string ⟨#[]⟩, .string ⟨#[]⟩, .int .i64 0, .string ⟨#[]⟩, .string ⟨#[]⟩, .string ⟨#[]⟩] 68)).drewN nq = V at hg0 HBx RQ ⊢
        have HG := Lib.hid hg0
        clear hg0
        go_upto_region 6 with (first | (refine wpList_load_quad rfl (.tmp 34) rfl b1 o1 rfl x RQ.out ?_) | (refine wpList_store_quad rfl (.tmp 6) (.tmp 35) rfl _ rfl x rfl ?T1 ?o1 ?hs1 ?hg1 ?_; (case hg1 => exact HG.out); (case hs1 => rfl); go_frame))
        have RB : Hid ((V.setRow g (quadC x).toArray).rangeAt g 0 (quadC x)) := Lib.hid (range_row (setRow_heap _ g _ (quadC x).toArray 68 (0, 0) HG.out))
        have HBy : Below g wr (V.setRow g (quadC x).toArray) := HBx.out.trans ⟨rfl, rfl, rfl, by simp, fun k hk => setRow_other V g k _ (by omega)⟩
        have HB5 : Hid (Below w.heap.size w (V.setRow g (quadC x).toArray)) := Lib.hid (HB.out.trans (HBy.mono hgw))
        have HO5 : Hid (QOwn w.heap.size u5 done (V.setRow g (quadC x).toArray)) := Lib.hid (HO.out.below (hgsz.out ▸ HBy))
        clear HBy
        generalize V.setRow g (quadC x).toArray = WS at RB HB5 HO5 ⊢
        clear HG HBx RQ
        go_wp2_with fail
        rcases List.eq_nil_or_concat done with hd0 | ⟨ds, z, hd0⟩
        · have HN : Hid (joinR none as0 bs0 = (done ++ [x]) ++ joinR (done ++ [x]).getLast? (ls) ([])) := Lib.hid (by rw [HJ.out, show doneQ done x = done ++ [x] by rw [hd0]; rfl])
          have hl0 : done.length = 0 := by rw [hd0]; rfl
          clear HJ hd0
          obtain ⟨va, vc, hov⟩ := HO5.out.view.form'
          rw [hl0] at hov
          subst hov
          go_quiet (fail)
          have HB6 : Hid (Below w.heap.size w (WS.drewN nq)) := Lib.hid (below_drewN HB5.out nq)
          have HO6 : Hid (QOwn w.heap.size (.slice va 0 vc) done (WS.drewN nq)) := Lib.hid (show QOwn w.heap.size (.slice va 0 vc) done (WS.drewN nq) from HO5.out)
          have RB9 : Hid ((WS.drewN nq).rangeAt g 0 (quadC x)) := Lib.hid (show WS.rangeAt g 0 (quadC x) from RB.out)
          generalize WS.drewN nq = WT at HB6 HO6 RB9 ⊢
          go_wp2_with (first | (refine wpList_load_quad rfl (.tmp 6) rfl g 0 rfl x RB9.out ?_) | (refine wpList_build1c rfl (.tmp 58) rfl x rfl ?_) | (at_builtin; refine wpList_append_quad rfl (.tmp 57) (.tmp 59) rfl w.heap.size _ done rfl _ HO6.out x 68 rfl rfl (by omega) w HB6.out HB6.out.size ?_; intro v6 w6 ho6 hb6; have HO9 := Lib.hid ho6; have HB9 := Lib.hid hb6; clear ho6 hb6))
          try (go_frame; go_wp2_with fail)
          go_roundw
          case rel => exact ⟨ls, [], done ++ [x], HTA, HVB, HO9, HB9, by simp at hlen ⊢; omega, Lib.hid ⟨by simp at l0 ⊢ <;> omega, by simp at l1 ⊢ <;> omega⟩, HN⟩
          case measure =>
            have la1 : lenV (tailQ b1 o1 (ls.length + 1) k1) = ls.length := HTA.out.len
            simp only [la1]
            simp [lenV]
        · have HN0 : Hid (doneQ done x = if decide (cmpQ z x < 0) then done ++ [x] else done) := Lib.hid (by unfold doneQ goesB; rw [hd0]; simp)
          have hld : done.length = ds.length + 1 := by rw [hd0]; simp
          have hld2 : ds.length ≤ 4194304 := by omega
          obtain ⟨va, vc, hov⟩ := HO5.out.view.form'
          have hvw := HO5.out.view
          subst hov
          obtain ⟨b9, o9, rfl⟩ := hvw.place1 (by omega)
          have hz := hvw.get1 (k := ds.length) (by omega)
          rw [show done[ds.length]'(by omega) = z by simp [hd0]] at hz
          have RZ : Hid (WS.drew.rangeAt b9 (o9 + ds.length * 16) (quadC z)) := Lib.hid hz
          have RB1 : Hid (WS.drew.rangeAt g 0 (quadC x)) := Lib.hid (show WS.rangeAt g 0 (quadC x) from RB.out)
          obtain ⟨k, hkk⟩ : ∃ k, ds.length = k := ⟨_, rfl⟩
          rw [hkk] at RZ hld hld2
          clear hvw hz hd0 hkk
          have hldn := hld
          obtain ⟨N, eN⟩ : ∃ N, done.length = N := ⟨_, rfl⟩
          rw [eN] at hld
          have W1 : IntKind.i64.wrap (k : Int) = (k : Int) := IntWalk.i64_in _ (by omega)
          have W2 : IntKind.i64.wrap ((N : Int) - 1) = (k : Int) := by rw [show (N : Int) - 1 = k by omega]; exact W1
          have hm3 : (0 : Int) ≤ (k : Int) := by omega
          have hkN : k < N := by omega
          have hkI : (k : Int) < (N : Int) := by omega
          have z9 : ((N : Int) == 0) = false := beq_eq_false_iff_ne.2 (by omega)
          have HLN := Lib.hid eN
          have hle : done.length ≤ 4194304 := by omega
          obtain ⟨n2, hn2⟩ : ∃ n, cmpQ z x = n := ⟨_, rfl⟩
          have CX := CM.out z x
          rw [hn2] at CX HN0
          have CM2 := Lib.hid CX
          clear CX hn2
          have HO5n := Lib.hid (show QOwn w.heap.size (.slice (some ⟨b9, o9, none⟩) N vc) done WS by rw [← eN]; exact HO5.out)
          clear HO5
          have HO5 := HO5n
          clear HO5n
          rw [eN]
          clear hld hldn eN T1 q0 za1 pa1
          by_cases t2 : n2 < 0
          · have q7 : decide (n2 < 0) = true := decide_eq_true t2
            have HN : Hid (joinR none as0 bs0 = (done ++ [x]) ++ joinR (done ++ [x]).getLast? (ls) ([])) := Lib.hid (by rw [HJ.out, HN0.out, if_pos q7])
            clear HJ HN0 t2
            refine region_still 11 (by kernel_rfl) (by kernel_rfl) ?_
            simp only [List.take_succ_cons, List.take_zero, List.drop_succ_cons, List.drop_zero]
            repeat (first | (refine still_load_quadG (.tmp 51) rfl ?hw8 b9 (o9 + k * 16) rfl z RZ.out ?_; (case hw8 => first | rfl | go_simp)) | (refine still_load_quadG (.tmp 6) rfl ?hw9 g 0 rfl x RB1.out ?_; (case hw9 => first | rfl | go_simp)) | still_step)
            refine wpStill_nil ?_
            clear W1 W2
            go_wp2_with (first | (go_at_call 63; (with_reducible refine (CM2.out _).mono ?_); rintro e w8 ⟨rfl, hb8⟩; have HB8 := Lib.hid hb8; have HB6 := Lib.hid (HB5.out.trans (((below_drewN (Below.refl _ WS) 1).trans hb8).mono HB5.out.size)); have HO6 := Lib.hid (HO5.out.below ((below_drewN (Below.refl _ WS) 1).trans hb8)); have RB9 := Lib.hid (range_below RB1.out hb8); clear hb8) | (refine wpList_load_quad rfl (.tmp 6) rfl g 0 rfl x RB9.out ?_) | (refine wpList_build1c rfl (.tmp 58) rfl x rfl ?_) | (at_builtin; refine wpList_append_quad rfl (.tmp 57) (.tmp 59) rfl w.heap.size _ done rfl _ HO6.out x 68 rfl rfl (by omega) w HB6.out HB6.out.size ?_; intro v6 w6 ho6 hb6; have HO9 := Lib.hid ho6; have HB9 := Lib.hid hb6; clear ho6 hb6))
            try (go_frame; go_wp2_with fail)
            go_roundw
            case rel => exact ⟨ls, [], done ++ [x], HTA, HVB, HO9, HB9, by simp at hlen ⊢; omega, Lib.hid ⟨by simp at l0 ⊢ <;> omega, by simp at l1 ⊢ <;> omega⟩, HN⟩
            case measure =>
              have la1 : lenV (tailQ b1 o1 (ls.length + 1) k1) = ls.length := HTA.out.len
              simp only [la1]
              simp [lenV]
          · have q7 : decide (n2 < 0) = false := decide_eq_false t2
            have HN : Hid (joinR none as0 bs0 = done ++ joinR done.getLast? (ls) ([])) := Lib.hid (by rw [HJ.out, HN0.out, if_neg (by rw [q7]; simp)])
            clear HJ HN0 t2
            refine region_still 11 (by kernel_rfl) (by kernel_rfl) ?_
            simp only [List.take_succ_cons, List.take_zero, List.drop_succ_cons, List.drop_zero]
            repeat (first | (refine still_load_quadG (.tmp 51) rfl ?hw8 b9 (o9 + k * 16) rfl z RZ.out ?_; (case hw8 => first | rfl | go_simp)) | (refine still_load_quadG (.tmp 6) rfl ?hw9 g 0 rfl x RB1.out ?_; (case hw9 => first | rfl | go_simp)) | still_step)
            refine wpStill_nil ?_
            clear W1 W2
            go_wp2_with (go_at_call 63; (with_reducible refine (CM2.out _).mono ?_); rintro e w8 ⟨rfl, hb8⟩; have HB8 := Lib.hid hb8; have HB6 := Lib.hid (HB5.out.trans (((below_drewN (Below.refl _ WS) 1).trans hb8).mono HB5.out.size)); have HO6 := Lib.hid (HO5.out.below ((below_drewN (Below.refl _ WS) 1).trans hb8)); have RB9 := Lib.hid (range_below RB1.out hb8); clear hb8)
            have HO9 := HO6
            have HB9 := HB6
            try (go_frame; go_wp2_with fail)
            go_roundw
            case rel => exact ⟨ls, [], done, HTA, HVB, HO9, HB9, by simp at hlen ⊢; omega, Lib.hid ⟨by simp at l0 ⊢ <;> omega, by simp at l1 ⊢ <;> omega⟩, HN⟩
            case measure =>
              have la1 : lenV (tailQ b1 o1 (ls.length + 1) k1) = ls.length := HTA.out.len
              simp only [la1]
              simp [lenV]
      · have lb : rs.length ≤ 2097152 := by simp at l1; omega
        have pb1 : (0 : Int) < (rs.length : Int) + 1 := by omega
        have zb1 : ((rs.length : Int) + 1 == 0) = false := beq_eq_false_iff_ne.2 (by omega)
        obtain ⟨b2, o2, k2, hbv, hk2, hr2, htb⟩ := HVB.out.cons
        have HR2 := Lib.hid hr2
        have HTB := Lib.hid htb
        clear hr2 htb
        have T2 := run_tailQ b2 o2 (rs.length + 1) k2 (by omega)
        obtain ⟨n, hn⟩ : ∃ n, cmpQ x y = n := ⟨_, rfl⟩
        have CX := CM.out x y
        rw [hn] at CX
        have CM1 := Lib.hid CX
        have HNN := Lib.hid hn
        have RD1 : Hid ((wr.alloc (.cells #[.int .i64 0, .string ⟨#[]⟩, .string ⟨#[]⟩, .string ⟨#[]⟩, .int .i64 0, .string ⟨#[]⟩, .string ⟨#[]⟩, .string ⟨#[]⟩, .int .i64 0, .string ⟨#[]⟩, .string ⟨#[]⟩, .string ⟨#[]⟩, .int .i64 0, .string ⟨#[]⟩, .string ⟨#[]⟩, .string ⟨#[]⟩] 68)).drew.rangeAt b1 o1 (quadC x)) := Lib.hid (range_below (range_below HR1.out HB.out) (((Below.refl _ _).alloc (Nat.le_refl _) _).drew))
        have RD2 : Hid ((wr.alloc (.cells #[.int .i64 0, .string ⟨#[]⟩, .string ⟨#[]⟩, .string ⟨#[]⟩, .int .i64 0, .string ⟨#[]⟩, .string ⟨#[]⟩, .string ⟨#[]⟩, .int .i64 0, .string ⟨#[]⟩, .string ⟨#[]⟩, .string ⟨#[]⟩, .int .i64 0, .string ⟨#[]⟩, .string ⟨#[]⟩, .string ⟨#[]⟩] 68)).drew.rangeAt b2 o2 (quadC y)) := Lib.hid (range_below (range_below HR2.out HB.out) (((Below.refl _ _).alloc (Nat.le_refl _) _).drew))
        clear CX hn
        subst hav hbv
        by_cases n0 : n ≤ 0
        · have q8 : decide (n ≤ 0) = true := decide_eq_true n0
          have HJ : Hid (joinR none as0 bs0 = doneQ done x ++ joinR (doneQ done x).getLast? ls (y :: rs)) := Lib.hid (by rw [HM.out]; exact joinR_a done x ls (y :: rs) (.inr ⟨y, rs, rfl, by rw [HNN.out]; exact n0⟩))
          clear HM n0
          go_wp2_with fail
          refine region_still 14 (by kernel_rfl) (by kernel_rfl) ?_
          simp only [List.take_succ_cons, List.take_zero, List.drop_succ_cons, List.drop_zero]
          repeat (first | (refine still_load_quadG (.tmp 24) rfl ?hw4 b1 o1 rfl x RD1.out ?_; (case hw4 => first | rfl | go_simp)) | (refine still_load_quadG (.tmp 27) rfl ?hw5 b2 o2 rfl y RD2.out ?_; (case hw5 => first | rfl | go_simp)) | still_step)
          refine wpStill_nil ?_
          obtain ⟨g, hgz⟩ : ∃ g, wr.heap.size = g := ⟨_, rfl⟩
          have hgsz := Lib.hid hgz.symm
          have HGZ := Lib.hid hgz
          have hgw : w.heap.size ≤ g := by rw [← hgz]; exact HB.out.size
          clear hgz
          go_upto_region 5 with (go_at_call 63; (with_reducible refine (CM1.out _).mono ?_); rintro e V ⟨rfl, hb3⟩; have HG := Lib.hid ((hb3.block wr.heap.size (by simp)).trans (heap_alloc_new wr (.cells #[.int .i64 0, .string ⟨#[]⟩, .string ⟨#[]⟩, .string ⟨#[]⟩, .int .i64 0, .string ⟨#[]⟩, .string ⟨#[]⟩, .string ⟨#[]⟩, .int .i64 0, .string ⟨#[]⟩, .string ⟨#[]⟩, .string ⟨#[]⟩, .int .i64 0, .string ⟨#[]⟩, .string ⟨#[]⟩, .string ⟨#[]⟩] 68))); have HBx := Lib.hid ((((Below.refl _ wr).alloc (Nat.le_refl _) (.cells #[.int .i64 0, .string ⟨#[]⟩, .string ⟨#[]⟩, .string ⟨#[]⟩, .int .i64 0, .string ⟨#[]⟩, .string ⟨#[]⟩, .string ⟨#[]⟩, .int .i64 0, .string ⟨#[]⟩, .string ⟨#[]⟩, .string ⟨#[]⟩, .int .i64 0, .string ⟨#[]⟩, .string ⟨#[]⟩, .string ⟨#[]⟩] 68)).drew).trans (hb3.mono (by simp))); have RQ := Lib.hid (range_below RD1.out hb3); clear hb3)
          rw [HGZ.out] at HG HBx ⊢
          go_upto_region 6 with (first | (refine wpList_load_quad rfl (.tmp 34) rfl b1 o1 rfl x RQ.out ?_) | (refine wpList_store_quad rfl (.tmp 6) (.tmp 35) rfl _ rfl x rfl ?T1 ?o1 ?hs1 ?hg1 ?_; (case hg1 => exact HG.out); (case hs1 => rfl); go_frame))
          have RB : Hid ((V.setRow g (quadC x).toArray).rangeAt g 0 (quadC x)) := Lib.hid (range_row (setRow_heap _ g _ (quadC x).toArray 68 (0, 0) HG.out))
          have HBy : Below g wr (V.setRow g (quadC x).toArray) := HBx.out.trans ⟨rfl, rfl, rfl, by simp, fun k hk => setRow_other V g k _ (by omega)⟩
          have HB5 : Hid (Below w.heap.size w (V.setRow g (quadC x).toArray)) := Lib.hid (HB.out.trans (HBy.mono hgw))
          have HO5 : Hid (QOwn w.heap.size u5 done (V.setRow g (quadC x).toArray)) := Lib.hid (HO.out.below (hgsz.out ▸ HBy))
          clear HBy
          generalize V.setRow g (quadC x).toArray = WS at RB HB5 HO5 ⊢
          clear HG HBx RQ
          go_wp2_with fail
          rcases List.eq_nil_or_concat done with hd0 | ⟨ds, z, hd0⟩
          · have HN : Hid (joinR none as0 bs0 = (done ++ [x]) ++ joinR (done ++ [x]).getLast? (ls) (y :: rs)) := Lib.hid (by rw [HJ.out, show doneQ done x = done ++ [x] by rw [hd0]; rfl])
            have hl0 : done.length = 0 := by rw [hd0]; rfl
            clear HJ hd0
            obtain ⟨va, vc, hov⟩ := HO5.out.view.form'
            rw [hl0] at hov
            subst hov
            go_quiet (fail)
            have HB6 : Hid (Below w.heap.size w (WS.drewN nq)) := Lib.hid (below_drewN HB5.out nq)
            have HO6 : Hid (QOwn w.heap.size (.slice va 0 vc) done (WS.drewN nq)) := Lib.hid (show QOwn w.heap.size (.slice va 0 vc) done (WS.drewN nq) from HO5.out)
            have RB9 : Hid ((WS.drewN nq).rangeAt g 0 (quadC x)) := Lib.hid (show WS.rangeAt g 0 (quadC x) from RB.out)
            generalize WS.drewN nq = WT at HB6 HO6 RB9 ⊢
            go_wp2_with (first | (refine wpList_load_quad rfl (.tmp 6) rfl g 0 rfl x RB9.out ?_) | (refine wpList_build1c rfl (.tmp 58) rfl x rfl ?_) | (at_builtin; refine wpList_append_quad rfl (.tmp 57) (.tmp 59) rfl w.heap.size _ done rfl _ HO6.out x 68 rfl rfl (by omega) w HB6.out HB6.out.size ?_; intro v6 w6 ho6 hb6; have HO9 := Lib.hid ho6; have HB9 := Lib.hid hb6; clear ho6 hb6))
            try (go_frame; go_wp2_with fail)
            go_roundw
            case rel => exact ⟨ls, y :: rs, done ++ [x], HTA, HVB, HO9, HB9, by simp at hlen ⊢; omega, Lib.hid ⟨by simp at l0 ⊢ <;> omega, by simp at l1 ⊢ <;> omega⟩, HN⟩
            case measure =>
              have la1 : lenV (tailQ b1 o1 (ls.length + 1) k1) = ls.length := HTA.out.len
              simp only [la1]
              simp [lenV]
          · have HN0 : Hid (doneQ done x = if decide (cmpQ z x < 0) then done ++ [x] else done) := Lib.hid (by unfold doneQ goesB; rw [hd0]; simp)
            have hld : done.length = ds.length + 1 := by rw [hd0]; simp
            have hld2 : ds.length ≤ 4194304 := by omega
            obtain ⟨va, vc, hov⟩ := HO5.out.view.form'
            have hvw := HO5.out.view
            subst hov
            obtain ⟨b9, o9, rfl⟩ := hvw.place1 (by omega)
            have hz := hvw.get1 (k := ds.length) (by omega)
            rw [show done[ds.length]'(by omega) = z by simp [hd0]] at hz
            have RZ : Hid (WS.drew.rangeAt b9 (o9 + ds.length * 16) (quadC z)) := Lib.hid hz
            have RB1 : Hid (WS.drew.rangeAt g 0 (quadC x)) := Lib.hid (show WS.rangeAt g 0 (quadC x) from RB.out)
            obtain ⟨k, hkk⟩ : ∃ k, ds.length = k := ⟨_, rfl⟩
            rw [hkk] at RZ hld hld2
            clear hvw hz hd0 hkk
            have hldn := hld
            obtain ⟨N, eN⟩ : ∃ N, done.length = N := ⟨_, rfl⟩
            rw [eN] at hld
            have W1 : IntKind.i64.wrap (k : Int) = (k : Int) := IntWalk.i64_in _ (by omega)
            have W2 : IntKind.i64.wrap ((N : Int) - 1) = (k : Int) := by rw [show (N : Int) - 1 = k by omega]; exact W1
            have hm3 : (0 : Int) ≤ (k : Int) := by omega
            have hkN : k < N := by omega
            have hkI : (k : Int) < (N : Int) := by omega
            have z9 : ((N : Int) == 0) = false := beq_eq_false_iff_ne.2 (by omega)
            have HLN := Lib.hid eN
            have hle : done.length ≤ 4194304 := by omega
            obtain ⟨n2, hn2⟩ : ∃ n, cmpQ z x = n := ⟨_, rfl⟩
            have CX := CM.out z x
            rw [hn2] at CX HN0
            have CM2 := Lib.hid CX
            clear CX hn2
            have HO5n := Lib.hid (show QOwn w.heap.size (.slice (some ⟨b9, o9, none⟩) N vc) done WS by rw [← eN]; exact HO5.out)
            clear HO5
            have HO5 := HO5n
            clear HO5n
            rw [eN]
            clear hld hldn eN T1 T2 q0 zb1 pb1 za1 pa1
            by_cases t2 : n2 < 0
            · have q7 : decide (n2 < 0) = true := decide_eq_true t2
              have HN : Hid (joinR none as0 bs0 = (done ++ [x]) ++ joinR (done ++ [x]).getLast? (ls) (y :: rs)) := Lib.hid (by rw [HJ.out, HN0.out, if_pos q7])
              clear HJ HN0 t2
              refine region_still 11 (by kernel_rfl) (by kernel_rfl) ?_
              simp only [List.take_succ_cons, List.take_zero, List.drop_succ_cons, List.drop_zero]
              repeat (first | (refine still_load_quadG (.tmp 51) rfl ?hw8 b9 (o9 + k * 16) rfl z RZ.out ?_; (case hw8 => first | rfl | go_simp)) | (refine still_load_quadG (.tmp 6) rfl ?hw9 g 0 rfl x RB1.out ?_; (case hw9 => first | rfl | go_simp)) | still_step)
              refine wpStill_nil ?_
              clear W1 W2
              go_wp2_with (first | (go_at_call 63; (with_reducible refine (CM2.out _).mono ?_); rintro e w8 ⟨rfl, hb8⟩; have HB8 := Lib.hid hb8; have HB6 := Lib.hid (HB5.out.trans (((below_drewN (Below.refl _ WS) 1).trans hb8).mono HB5.out.size)); have HO6 := Lib.hid (HO5.out.below ((below_drewN (Below.refl _ WS) 1).trans hb8)); have RB9 := Lib.hid (range_below RB1.out hb8); clear hb8) | (refine wpList_load_quad rfl (.tmp 6) rfl g 0 rfl x RB9.out ?_) | (refine wpList_build1c rfl (.tmp 58) rfl x rfl ?_) | (at_builtin; refine wpList_append_quad rfl (.tmp 57) (.tmp 59) rfl w.heap.size _ done rfl _ HO6.out x 68 rfl rfl (by omega) w HB6.out HB6.out.size ?_; intro v6 w6 ho6 hb6; have HO9 := Lib.hid ho6; have HB9 := Lib.hid hb6; clear ho6 hb6))
              try (go_frame; go_wp2_with fail)
              go_roundw
              case rel => exact ⟨ls, y :: rs, done ++ [x], HTA, HVB, HO9, HB9, by simp at hlen ⊢; omega, Lib.hid ⟨by simp at l0 ⊢ <;> omega, by simp at l1 ⊢ <;> omega⟩, HN⟩
              case measure =>
                have la1 : lenV (tailQ b1 o1 (ls.length + 1) k1) = ls.length := HTA.out.len
                simp only [la1]
                simp [lenV]
            · have q7 : decide (n2 < 0) = false := decide_eq_false t2
              have HN : Hid (joinR none as0 bs0 = done ++ joinR done.getLast? (ls) (y :: rs)) := Lib.hid (by rw [HJ.out, HN0.out, if_neg (by rw [q7]; simp)])
              clear HJ HN0 t2
              refine region_still 11 (by kernel_rfl) (by kernel_rfl) ?_
              simp only [List.take_succ_cons, List.take_zero, List.drop_succ_cons, List.drop_zero]
              repeat (first | (refine still_load_quadG (.tmp 51) rfl ?hw8 b9 (o9 + k * 16) rfl z RZ.out ?_; (case hw8 => first | rfl | go_simp)) | (refine still_load_quadG (.tmp 6) rfl ?hw9 g 0 rfl x RB1.out ?_; (case hw9 => first | rfl | go_simp)) | still_step)
              refine wpStill_nil ?_
              clear W1 W2
              go_wp2_with (go_at_call 63; (with_reducible refine (CM2.out _).mono ?_); rintro e w8 ⟨rfl, hb8⟩; have HB8 := Lib.hid hb8; have HB6 := Lib.hid (HB5.out.trans (((below_drewN (Below.refl _ WS) 1).trans hb8).mono HB5.out.size)); have HO6 := Lib.hid (HO5.out.below ((below_drewN (Below.refl _ WS) 1).trans hb8)); have RB9 := Lib.hid (range_below RB1.out hb8); clear hb8)
              have HO9 := HO6
              have HB9 := HB6
              try (go_frame; go_wp2_with fail)
              go_roundw
              case rel => exact ⟨ls, y :: rs, done, HTA, HVB, HO9, HB9, by simp at hlen ⊢; omega, Lib.hid ⟨by simp at l0 ⊢ <;> omega, by simp at l1 ⊢ <;> omega⟩, HN⟩
              case measure =>
                have la1 : lenV (tailQ b1 o1 (ls.length + 1) k1) = ls.length := HTA.out.len
                simp only [la1]
                simp [lenV]
        · have q8 : decide (n ≤ 0) = false := decide_eq_false n0
          have HJ : Hid (joinR none as0 bs0 = doneQ done y ++ joinR (doneQ done y).getLast? (x :: ls) rs) := Lib.hid (by rw [HM.out]; exact joinR_b done y (x :: ls) rs (.inr ⟨x, ls, rfl, by rw [HNN.out]; exact n0⟩))
          clear HM n0
          go_wp2_with fail
          refine region_still 14 (by kernel_rfl) (by kernel_rfl) ?_
          simp only [List.take_succ_cons, List.take_zero, List.drop_succ_cons, List.drop_zero]
          repeat (first | (refine still_load_quadG (.tmp 24) rfl ?hw4 b1 o1 rfl x RD1.out ?_; (case hw4 => first | rfl | go_simp)) | (refine still_load_quadG (.tmp 27) rfl ?hw5 b2 o2 rfl y RD2.out ?_; (case hw5 => first | rfl | go_simp)) | still_step)
          refine wpStill_nil ?_
          obtain ⟨g, hgz⟩ : ∃ g, wr.heap.size = g := ⟨_, rfl⟩
          have hgsz := Lib.hid hgz.symm
          have HGZ := Lib.hid hgz
          have hgw : w.heap.size ≤ g := by rw [← hgz]; exact HB.out.size
          clear hgz
          go_upto_region 7 with (go_at_call 63; (with_reducible refine (CM1.out _).mono ?_); rintro e V ⟨rfl, hb3⟩; have HG := Lib.hid ((hb3.block wr.heap.size (by simp)).trans (heap_alloc_new wr (.cells #[.int .i64 0, .string ⟨#[]⟩, .string ⟨#[]⟩, .string ⟨#[]⟩, .int .i64 0, .string ⟨#[]⟩, .string ⟨#[]⟩, .string ⟨#[]⟩, .int .i64 0, .string ⟨#[]⟩, .string ⟨#[]⟩, .string ⟨#[]⟩, .int .i64 0, .string ⟨#[]⟩, .string ⟨#[]⟩, .string ⟨#[]⟩] 68))); have HBx := Lib.hid ((((Below.refl _ wr).alloc (Nat.le_refl _) (.cells #[.int .i64 0, .string ⟨#[]⟩, .string ⟨#[]⟩, .string ⟨#[]⟩, .int .i64 0, .string ⟨#[]⟩, .string ⟨#[]⟩, .string ⟨#[]⟩, .int .i64 0, .string ⟨#[]⟩, .string ⟨#[]⟩, .string ⟨#[]⟩, .int .i64 0, .string ⟨#[]⟩, .string ⟨#[]⟩, .string ⟨#[]⟩] 68)).drew).trans (hb3.mono (by simp))); have RQ := Lib.hid (range_below RD2.out hb3); clear hb3)
          rw [HGZ.out] at HG HBx ⊢
          go_upto_region 8 with (first | (refine wpList_load_quad rfl (.tmp 39) rfl b2 o2 rfl y RQ.out ?_) | (refine wpList_store_quad rfl (.tmp 6) (.tmp 40) rfl _ rfl y rfl ?T1 ?o1 ?hs1 ?hg1 ?_; (case hg1 => exact HG.out); (case hs1 => rfl); go_frame))
          have RB : Hid ((V.setRow g (quadC y).toArray).rangeAt g 0 (quadC y)) := Lib.hid (range_row (setRow_heap _ g _ (quadC y).toArray 68 (0, 0) HG.out))
          have HBy : Below g wr (V.setRow g (quadC y).toArray) := HBx.out.trans ⟨rfl, rfl, rfl, by simp, fun k hk => setRow_other V g k _ (by omega)⟩
          have HB5 : Hid (Below w.heap.size w (V.setRow g (quadC y).toArray)) := Lib.hid (HB.out.trans (HBy.mono hgw))
          have HO5 : Hid (QOwn w.heap.size u5 done (V.setRow g (quadC y).toArray)) := Lib.hid (HO.out.below (hgsz.out ▸ HBy))
          clear HBy
          generalize V.setRow g (quadC y).toArray = WS at RB HB5 HO5 ⊢
          clear HG HBx RQ
          go_wp2_with fail
          rcases List.eq_nil_or_concat done with hd0 | ⟨ds, z, hd0⟩
          · have HN : Hid (joinR none as0 bs0 = (done ++ [y]) ++ joinR (done ++ [y]).getLast? (x :: ls) (rs)) := Lib.hid (by rw [HJ.out, show doneQ done y = done ++ [y] by rw [hd0]; rfl])
            have hl0 : done.length = 0 := by rw [hd0]; rfl
            clear HJ hd0
            obtain ⟨va, vc, hov⟩ := HO5.out.view.form'
            rw [hl0] at hov
            subst hov
            go_quiet (fail)
            have HB6 : Hid (Below w.heap.size w (WS.drewN nq)) := Lib.hid (below_drewN HB5.out nq)
            have HO6 : Hid (QOwn w.heap.size (.slice va 0 vc) done (WS.drewN nq)) := Lib.hid (show QOwn w.heap.size (.slice va 0 vc) done (WS.drewN nq) from HO5.out)
            have RB9 : Hid ((WS.drewN nq).rangeAt g 0 (quadC y)) := Lib.hid (show WS.rangeAt g 0 (quadC y) from RB.out)
            generalize WS.drewN nq = WT at HB6 HO6 RB9 ⊢
            go_wp2_with (first | (refine wpList_load_quad rfl (.tmp 6) rfl g 0 rfl y RB9.out ?_) | (refine wpList_build1c rfl (.tmp 58) rfl y rfl ?_) | (at_builtin; refine wpList_append_quad rfl (.tmp 57) (.tmp 59) rfl w.heap.size _ done rfl _ HO6.out y 68 rfl rfl (by omega) w HB6.out HB6.out.size ?_; intro v6 w6 ho6 hb6; have HO9 := Lib.hid ho6; have HB9 := Lib.hid hb6; clear ho6 hb6))
            try (go_frame; go_wp2_with fail)
            go_roundw
            case rel => exact ⟨x :: ls, rs, done ++ [y], HVA, HTB, HO9, HB9, by simp at hlen ⊢; omega, Lib.hid ⟨by simp at l0 ⊢ <;> omega, by simp at l1 ⊢ <;> omega⟩, HN⟩
            case measure =>
              have la2 : lenV (tailQ b2 o2 (rs.length + 1) k2) = rs.length := HTB.out.len
              simp only [la2]
              simp [lenV]
          · have HN0 : Hid (doneQ done y = if decide (cmpQ z y < 0) then done ++ [y] else done) := Lib.hid (by unfold doneQ goesB; rw [hd0]; simp)
            have hld : done.length = ds.length + 1 := by rw [hd0]; simp
            have hld2 : ds.length ≤ 4194304 := by omega
            obtain ⟨va, vc, hov⟩ := HO5.out.view.form'
            have hvw := HO5.out.view
            subst hov
            obtain ⟨b9, o9, rfl⟩ := hvw.place1 (by omega)
            have hz := hvw.get1 (k := ds.length) (by omega)
            rw [show done[ds.length]'(by omega) = z by simp [hd0]] at hz
            have RZ : Hid (WS.drew.rangeAt b9 (o9 + ds.length * 16) (quadC z)) := Lib.hid hz
            have RB1 : Hid (WS.drew.rangeAt g 0 (quadC y)) := Lib.hid (show WS.rangeAt g 0 (quadC y) from RB.out)
            obtain ⟨k, hkk⟩ : ∃ k, ds.length = k := ⟨_, rfl⟩
            rw [hkk] at RZ hld hld2
            clear hvw hz hd0 hkk
            have hldn := hld
            obtain ⟨N, eN⟩ : ∃ N, done.length = N := ⟨_, rfl⟩
            rw [eN] at hld
            have W1 : IntKind.i64.wrap (k : Int) = (k : Int) := IntWalk.i64_in _ (by omega)
            have W2 : IntKind.i64.wrap ((N : Int) - 1) = (k : Int) := by rw [show (N : Int) - 1 = k by omega]; exact W1
            have hm3 : (0 : Int) ≤ (k : Int) := by omega
            have hkN : k < N := by omega
            have hkI : (k : Int) < (N : Int) := by omega
            have z9 : ((N : Int) == 0) = false := beq_eq_false_iff_ne.2 (by omega)
            have HLN := Lib.hid eN
            have hle : done.length ≤ 4194304 := by omega
            obtain ⟨n2, hn2⟩ : ∃ n, cmpQ z y = n := ⟨_, rfl⟩
            have CX := CM.out z y
            rw [hn2] at CX HN0
            have CM2 := Lib.hid CX
            clear CX hn2
            have HO5n := Lib.hid (show QOwn w.heap.size (.slice (some ⟨b9, o9, none⟩) N vc) done WS by rw [← eN]; exact HO5.out)
            clear HO5
            have HO5 := HO5n
            clear HO5n
            rw [eN]
            clear hld hldn eN T1 T2 q0 zb1 pb1 za1 pa1
            by_cases t2 : n2 < 0
            · have q7 : decide (n2 < 0) = true := decide_eq_true t2
              have HN : Hid (joinR none as0 bs0 = (done ++ [y]) ++ joinR (done ++ [y]).getLast? (x :: ls) (rs)) := Lib.hid (by rw [HJ.out, HN0.out, if_pos q7])
              clear HJ HN0 t2
              refine region_still 11 (by kernel_rfl) (by kernel_rfl) ?_
              simp only [List.take_succ_cons, List.take_zero, List.drop_succ_cons, List.drop_zero]
              repeat (first | (refine still_load_quadG (.tmp 51) rfl ?hw8 b9 (o9 + k * 16) rfl z RZ.out ?_; (case hw8 => first | rfl | go_simp)) | (refine still_load_quadG (.tmp 6) rfl ?hw9 g 0 rfl y RB1.out ?_; (case hw9 => first | rfl | go_simp)) | still_step)
              refine wpStill_nil ?_
              clear W1 W2
              go_wp2_with (first | (go_at_call 63; (with_reducible refine (CM2.out _).mono ?_); rintro e w8 ⟨rfl, hb8⟩; have HB8 := Lib.hid hb8; have HB6 := Lib.hid (HB5.out.trans (((below_drewN (Below.refl _ WS) 1).trans hb8).mono HB5.out.size)); have HO6 := Lib.hid (HO5.out.below ((below_drewN (Below.refl _ WS) 1).trans hb8)); have RB9 := Lib.hid (range_below RB1.out hb8); clear hb8) | (refine wpList_load_quad rfl (.tmp 6) rfl g 0 rfl y RB9.out ?_) | (refine wpList_build1c rfl (.tmp 58) rfl y rfl ?_) | (at_builtin; refine wpList_append_quad rfl (.tmp 57) (.tmp 59) rfl w.heap.size _ done rfl _ HO6.out y 68 rfl rfl (by omega) w HB6.out HB6.out.size ?_; intro v6 w6 ho6 hb6; have HO9 := Lib.hid ho6; have HB9 := Lib.hid hb6; clear ho6 hb6))
              try (go_frame; go_wp2_with fail)
              go_roundw
              case rel => exact ⟨x :: ls, rs, done ++ [y], HVA, HTB, HO9, HB9, by simp at hlen ⊢; omega, Lib.hid ⟨by simp at l0 ⊢ <;> omega, by simp at l1 ⊢ <;> omega⟩, HN⟩
              case measure =>
                have la2 : lenV (tailQ b2 o2 (rs.length + 1) k2) = rs.length := HTB.out.len
                simp only [la2]
                simp [lenV]
            · have q7 : decide (n2 < 0) = false := decide_eq_false t2
              have HN : Hid (joinR none as0 bs0 = done ++ joinR done.getLast? (x :: ls) (rs)) := Lib.hid (by rw [HJ.out, HN0.out, if_neg (by rw [q7]; simp)])
              clear HJ HN0 t2
              refine region_still 11 (by kernel_rfl) (by kernel_rfl) ?_
              simp only [List.take_succ_cons, List.take_zero, List.drop_succ_cons, List.drop_zero]
              repeat (first | (refine still_load_quadG (.tmp 51) rfl ?hw8 b9 (o9 + k * 16) rfl z RZ.out ?_; (case hw8 => first | rfl | go_simp)) | (refine still_load_quadG (.tmp 6) rfl ?hw9 g 0 rfl y RB1.out ?_; (case hw9 => first | rfl | go_simp)) | still_step)
              refine wpStill_nil ?_
              clear W1 W2
              go_wp2_with (go_at_call 63; (with_reducible refine (CM2.out _).mono ?_); rintro e w8 ⟨rfl, hb8⟩; have HB8 := Lib.hid hb8; have HB6 := Lib.hid (HB5.out.trans (((below_drewN (Below.refl _ WS) 1).trans hb8).mono HB5.out.size)); have HO6 := Lib.hid (HO5.out.below ((below_drewN (Below.refl _ WS) 1).trans hb8)); have RB9 := Lib.hid (range_below RB1.out hb8); clear hb8)
              have HO9 := HO6
              have HB9 := HB6
              try (go_frame; go_wp2_with fail)
              go_roundw
              case rel => exact ⟨x :: ls, rs, done, HVA, HTB, HO9, HB9, by simp at hlen ⊢; omega, Lib.hid ⟨by simp at l0 ⊢ <;> omega, by simp at l1 ⊢ <;> omega⟩, HN⟩
              case measure =>
                have la2 : lenV (tailQ b2 o2 (rs.length + 1) k2) = rs.length := HTB.out.len
                simp only [la2]
                simp [lenV]
end Go.Proofs.YthipcepgbegaiaaGreatDoor
