/-
  The reference's both: contract. By an AI agent.
-/
import Derived.Test.YthipcepgbegaiaaGreatDoorZRefSets
import Derived.Test.YthipcepgbegaiaaGreatDoorZLoadQ
namespace Go.Proofs.YthipcepgbegaiaaGreatDoor
open Go.RowKit
set_option maxRecDepth 100000
theorem QView.form' {w : World} {v : Value} {l : List QuadL} (h : QView w v l) : ∃ a c, v = .slice a l.length c := by
  obtain ⟨a, c, rfl, _⟩ := h
  exact ⟨a, c, rfl⟩
theorem QView.place1 {w : World} {a : Option Addr} {n c : Nat} {l : List QuadL} (h : QView w (.slice a n c) l) (h0 : 0 < l.length) : ∃ b o, a = some ⟨b, o, none⟩ := by
  obtain ⟨a', cap, he, _, hq⟩ := h
  cases he
  exact hq.place h0
theorem QView.get1 {w : World} {b o n c : Nat} {l : List QuadL} (h : QView w (.slice (some ⟨b, o, none⟩) n c) l) {k : Nat} (hk : k < l.length) : w.rangeAt b (o + k * 16) (quadC l[k]) := by
  obtain ⟨a', cap, he, _, hq⟩ := h
  cases he
  exact hq.get hk
/-- the quads that stand ahead of x are passed over -/
def passQ (x : QuadL) (l : List QuadL) : List QuadL := l.dropWhile fun y => decide (cmpQ y x < 0)
theorem passQ_nil (x : QuadL) : passQ x [] = [] := rfl
theorem passQ_lt {x y : QuadL} {l : List QuadL} (h : cmpQ y x < 0) : passQ x (y :: l) = passQ x l := by unfold passQ; rw [List.dropWhile_cons, if_pos (by simpa using h)]
theorem passQ_ge {x y : QuadL} {l : List QuadL} (h : ¬ cmpQ y x < 0) : passQ x (y :: l) = y :: l := by unfold passQ; rw [List.dropWhile_cons, if_neg (by simpa using h)]
theorem bothR_step (i : Bool) {l : List QuadL} {m : Nat} (h : m < l.length) (b : List QuadL) : bothR i (l.drop m) b = (if ((passQ l[m] b).head? == some l[m]) == i then [l[m]] else []) ++ bothR i (l.drop (m + 1)) (passQ l[m] b) := by
  rw [List.drop_eq_getElem_cons h]
  rfl
theorem bothR_nil (i : Bool) (b : List QuadL) : bothR i [] b = [] := rfl
set_option maxHeartbeats 8000000 in
theorem refBoth_l (i : Bool) (as0 bs0 : List QuadL) (v0 v1 : Value) (w : World) (h0 : QView w v0 as0) (h1 : QView w v1 bs0) (n0 : as0.length ≤ 2097152) (n1 : bs0.length ≤ 2097152) :
    Calls Tryz.prog 93 #[v0, v1, .bool i] w fun e w' => ∃ v, e = .returned v ∧ QOwn w.heap.size v (bothR i as0 bs0) w' ∧ Below w.heap.size w w' := by
  have CM := Lib.hid (fun (x y : QuadL) (u : World) => refCompareQuads_l x y u)
  obtain ⟨pa, ca, rfl⟩ := h0.form'
  obtain ⟨pb, cb, rfl⟩ := h1.form'
  have HA := Lib.hid h0
  have HBV := Lib.hid h1
  clear h0 h1
  go_enter Tryz.func93, Tryz.ntmps93
  go_wp2_with fail
  go_loopw [8, 1, 7] (fun iv bv ov wr => ∃ (m : Nat) (rs done : List QuadL), iv = .int .i64 (m : Int) ∧ m ≤ as0.length ∧ Hid (QView w bv rs) ∧ Hid (QOwn w.heap.size ov done wr) ∧ Hid (Below w.heap.size w wr) ∧ done.length ≤ m ∧ Hid (rs.length ≤ 2097152) ∧ Hid (bothR i as0 bs0 = done ++ bothR i (as0.drop m) rs)) (fun iv _ _ _ => as0.length - (intOf iv).toNat)
  case atStart => exact ⟨0, bs0, [], rfl, Nat.zero_le _, HBV, Lib.hid (QOwn.nil _ _), Lib.hid (Below.refl _ _), by simp, Lib.hid n1, Lib.hid rfl⟩
  case round =>
    obtain ⟨m, rs, done, rfl, hm, HVB, HO, HB, hd, HL, HM⟩ := hrel
    clear HBV
    by_cases hlt : m < as0.length
    · have q9 : decide ((m : Int) < (as0.length : Int)) = true := decide_eq_true (by omega)
      have q9n : decide (m < as0.length) = true := decide_eq_true hlt
      obtain ⟨b1, o1, rfl⟩ := HA.out.place1 (by omega)
      have HS := Lib.hid (bothR_step i hlt rs)
      have HR0 : Hid (w.rangeAt b1 (o1 + m * 16) (quadC as0[m])) := Lib.hid (HA.out.get1 hlt)
      obtain ⟨x, hx⟩ : ∃ x, as0[m] = x := ⟨_, rfl⟩
      rw [hx] at HS HR0
      have HM2 : Hid (bothR i as0 bs0 = done ++ ((if ((passQ x rs).head? == some x) == i then [x] else []) ++ bothR i (as0.drop (m + 1)) (passQ x rs))) := Lib.hid (by rw [HM.out, HS.out])
      clear HM HS hx
      obtain ⟨ra, rc, rfl⟩ := HVB.out.form'
      obtain ⟨wo, rfl⟩ : ∃ wo : World, wo = wr := ⟨_, rfl⟩
      go_wp2_with fail
      go_loopw [1] (fun bv wr => ∃ rt : List QuadL, Hid (QView w bv rt) ∧ Hid (QOwn w.heap.size u7 done wr) ∧ Hid (Below w.heap.size w wr) ∧ Hid (rt.length ≤ 2097152) ∧ Hid (passQ x rs = passQ x rt)) (fun bv _ => lenV bv)
      case atStart => exact ⟨rs, HVB, HO, HB, HL, Lib.hid rfl⟩
      case round =>
        obtain ⟨rt, HVT, HOT, HBT, HLT, HP⟩ := hrel
        rcases rt with _ | ⟨y, ys⟩
        · obtain ⟨rb, cb2, hbv⟩ := HVT.out.empty
          cases i with
          | false =>
            have HM3 : Hid (bothR false as0 bs0 = done ++ ([x] ++ bothR false (as0.drop (m + 1)) [])) := Lib.hid (by rw [HM2.out, HP.out, passQ_nil]; rfl)
            clear HM2 HP
            subst hbv
            have q0 : decide ((0 : Int) < 0) = false := rfl
            go_wp2_with fail
            go_quiet (fail)
            have HB5 : Hid (Below w.heap.size w (wr.drewN nq)) := Lib.hid (below_drewN HBT.out nq)
            have HO5 : Hid (QOwn w.heap.size u7 done (wr.drewN nq)) := Lib.hid (show QOwn w.heap.size u7 done (wr.drewN nq) from HOT.out)
            generalize wr.drewN nq = wd at HB5 HO5 ⊢
            clear nq
            go_wp2_with fail
            go_quiet (fail)
            have HB6 : Hid (Below w.heap.size w (wd.drewN nq)) := Lib.hid (below_drewN HB5.out nq)
            have HO6 : Hid (QOwn w.heap.size u7 done (wd.drewN nq)) := Lib.hid (show QOwn w.heap.size u7 done (wd.drewN nq) from HO5.out)
            generalize wd.drewN nq = wd2 at HB6 HO6 ⊢
            have HN : Hid (bothR false as0 bs0 = (done ++ [x]) ++ bothR false (as0.drop (m + 1)) ([])) := Lib.hid (by rw [HM3.out]; simp)
            clear HM3
            have RX : Hid (wd2.rangeAt b1 (o1 + m * 16) (quadC x)) := Lib.hid (range_below HR0.out (HB6.out))
            have hm2 : m < as0.length := hlt
            have hm3 : (0 : Int) ≤ (m : Int) := by omega
            go_wp2_with (first | (refine wpList_load_quad rfl (.tmp 49) rfl b1 (o1 + m * 16) ?hx9 x RX.out ?_; (case hx9 => go_simp)) | (refine wpList_build1c rfl (.tmp 50) rfl x rfl ?_) | (at_builtin; refine wpList_append_quad rfl (.tmp 46) (.tmp 51) rfl w.heap.size _ done rfl _ HO6.out x 68 rfl rfl (by omega) w HB6.out HB6.out.size ?_; intro v6 w6 ho6 hb6; have HO7 := Lib.hid ho6; have HB7 := Lib.hid hb6; clear ho6 hb6))
            go_roundw
            case rel => exact ⟨m + 1, [], done ++ [x], by go_num, hlt, HVT, HO7, HB7, by simp; omega, HLT, HN⟩
            case measure => simp [intOf]; omega
          | true =>
            have HM3 : Hid (bothR true as0 bs0 = done ++ ([] ++ bothR true (as0.drop (m + 1)) [])) := Lib.hid (by rw [HM2.out, HP.out, passQ_nil]; rfl)
            clear HM2 HP
            subst hbv
            have q0 : decide ((0 : Int) < 0) = false := rfl
            go_wp2_with fail
            go_quiet (fail)
            have HB5 : Hid (Below w.heap.size w (wr.drewN nq)) := Lib.hid (below_drewN HBT.out nq)
            have HO5 : Hid (QOwn w.heap.size u7 done (wr.drewN nq)) := Lib.hid (show QOwn w.heap.size u7 done (wr.drewN nq) from HOT.out)
            generalize wr.drewN nq = wd at HB5 HO5 ⊢
            clear nq
            go_wp2_with fail
            go_quiet (fail)
            have HB6 : Hid (Below w.heap.size w (wd.drewN nq)) := Lib.hid (below_drewN HB5.out nq)
            have HO6 : Hid (QOwn w.heap.size u7 done (wd.drewN nq)) := Lib.hid (show QOwn w.heap.size u7 done (wd.drewN nq) from HO5.out)
            generalize wd.drewN nq = wd2 at HB6 HO6 ⊢
            have HN : Hid (bothR true as0 bs0 = done ++ bothR true (as0.drop (m + 1)) ([])) := Lib.hid (by rw [HM3.out]; simp)
            clear HM3
            go_wp2_with fail
            go_roundw
            case rel => exact ⟨m + 1, [], done, by go_num, hlt, HVT, HO6, HB6, by omega, HLT, HN⟩
            case measure => simp [intOf]; omega
        · obtain ⟨b2, o2, k2, hbv, hk2, hr2, htb⟩ := HVT.out.cons
          have HTB := Lib.hid htb
          have RD1 : Hid (wr.drew.rangeAt b1 (o1 + m * 16) (quadC x)) := Lib.hid (show wr.rangeAt b1 (o1 + m * 16) (quadC x) from range_below HR0.out HBT.out)
          have RD2 : Hid (wr.drew.rangeAt b2 o2 (quadC y)) := Lib.hid (show wr.rangeAt b2 o2 (quadC y) from range_below hr2 HBT.out)
          have HRY := Lib.hid hr2
          clear hr2 htb
          have l1 := HLT.out
          have ly : ys.length ≤ 2097152 := by simp at l1; omega
          have pb1 : (0 : Int) < (ys.length : Int) + 1 := by omega
          obtain ⟨n, hn⟩ : ∃ n, cmpQ y x = n := ⟨_, rfl⟩
          have CX := CM.out y x
          rw [hn] at CX
          have CMX := Lib.hid CX
          have HN0 := Lib.hid hn
          clear CX hn l1
          subst hbv
          by_cases n0 : n < 0
          · have q8 : decide (n < 0) = true := decide_eq_true n0
            have HP2 : Hid (passQ x rs = passQ x ys) := Lib.hid (by rw [HP.out, passQ_lt (by rw [HN0.out]; exact n0)])
            have T2 := run_tailQ b2 o2 (ys.length + 1) k2 (by omega)
            clear HP n0
            have hm2 : m < as0.length := hlt
            have hm3 : (0 : Int) ≤ (m : Int) := by omega
            go_wp2_with fail
            refine region_still 11 (by kernel_rfl) (by kernel_rfl) ?_
            simp only [List.take_succ_cons, List.take_zero, List.drop_succ_cons, List.drop_zero]
            repeat (first | (refine still_load_quadG (.tmp 20) rfl ?hw1 b2 o2 rfl y RD2.out ?_; (case hw1 => go_simp)) | (refine still_load_quadG (.tmp 24) rfl ?hw2 b1 (o1 + m * 16) rfl x RD1.out ?_; (case hw2 => go_simp)) | still_step)
            refine wpStill_nil ?_
            go_wp2_with (go_at_call 63; (with_reducible refine (CMX.out _).mono ?_); rintro e w3 ⟨rfl, hb3⟩; have HB5 := Lib.hid (HBT.out.trans (((below_drewN (Below.refl _ wr) 1).trans hb3).mono HBT.out.size)); have HO5 := Lib.hid (HOT.out.below ((below_drewN (Below.refl _ wr) 1).trans hb3)); clear hb3)
            go_roundw
            case rel => exact ⟨ys, HTB, HO5, HB5, Lib.hid ly, HP2⟩
            case measure =>
              have la2 : lenV (tailQ b2 o2 (ys.length + 1) k2) = ys.length := HTB.out.len
              simp only [la2]
              simp [lenV]
          · have q8 : decide (n < 0) = false := decide_eq_false n0
            have HP2 : Hid (passQ x rs = y :: ys) := Lib.hid (by rw [HP.out, passQ_ge (by rw [HN0.out]; exact n0)])
            clear HP n0
            by_cases he : y = x
            · subst he
              have EQ := fun u => eql_q y y u
              rw [decide_eq_true rfl] at EQ
              cases i with
              | false =>
                have HM3 : Hid (bothR false as0 bs0 = done ++ ([] ++ bothR false (as0.drop (m + 1)) (y :: ys))) := Lib.hid (by rw [HM2.out, HP2.out]; simp)
                clear HM2 HP2
                have hm2 : m < as0.length := hlt
                have hm3 : (0 : Int) ≤ (m : Int) := by omega
                go_wp2_with fail
                refine region_still 11 (by kernel_rfl) (by kernel_rfl) ?_
                simp only [List.take_succ_cons, List.take_zero, List.drop_succ_cons, List.drop_zero]
                repeat (first | (refine still_load_quadG (.tmp 20) rfl ?hw1 b2 o2 rfl y RD2.out ?_; (case hw1 => go_simp)) | (refine still_load_quadG (.tmp 24) rfl ?hw2 b1 (o1 + m * 16) rfl y RD1.out ?_; (case hw2 => go_simp)) | still_step)
                refine wpStill_nil ?_
                go_wp2_with (go_at_call 63; (with_reducible refine (CMX.out _).mono ?_); rintro e w3 ⟨rfl, hb3⟩; have HB5 := Lib.hid (HBT.out.trans (((below_drewN (Below.refl _ wr) 1).trans hb3).mono HBT.out.size)); have HO5 := Lib.hid (HOT.out.below ((below_drewN (Below.refl _ wr) 1).trans hb3)); clear hb3)
                have HB6 : Hid (Below w.heap.size w w3.drew) := Lib.hid (below_drewN HB5.out 1)
                have HO6 : Hid (QOwn w.heap.size u7 done w3.drew) := Lib.hid (show QOwn w.heap.size u7 done w3.drew from HO5.out)
                have RE1 : Hid (w3.drew.rangeAt b1 (o1 + m * 16) (quadC y)) := Lib.hid (show w3.rangeAt b1 (o1 + m * 16) (quadC y) from range_below HR0.out HB5.out)
                have RE2 : Hid (w3.drew.rangeAt b2 o2 (quadC y)) := Lib.hid (show w3.rangeAt b2 o2 (quadC y) from range_below HRY.out HB5.out)
                have hm2 : m < as0.length := hlt
                have hm3 : (0 : Int) ≤ (m : Int) := by omega
                refine region_still 14 (by kernel_rfl) (by kernel_rfl) ?_
                simp only [List.take_succ_cons, List.take_zero, List.drop_succ_cons, List.drop_zero]
                repeat (first | (refine still_load_quadG (.tmp 36) rfl ?hw3 b2 o2 rfl y RE2.out ?_; (case hw3 => go_simp)) | (refine still_load_quadG (.tmp 40) rfl ?hw4 b1 (o1 + m * 16) rfl y RE1.out ?_; (case hw4 => go_simp)) | still_step)
                refine wpStill_nil ?_
                generalize w3.drew = wd2 at HB6 HO6 ⊢
                clear EQ RE1 RE2
                have HN : Hid (bothR false as0 bs0 = done ++ bothR false (as0.drop (m + 1)) (y :: ys)) := Lib.hid (by rw [HM3.out]; simp)
                clear HM3
                go_wp2_with fail
                go_roundw
                case rel => exact ⟨m + 1, y :: ys, done, by go_num, hlt, HVT, HO6, HB6, by omega, HLT, HN⟩
                case measure => simp [intOf]; omega
              | true =>
                have HM3 : Hid (bothR true as0 bs0 = done ++ ([y] ++ bothR true (as0.drop (m + 1)) (y :: ys))) := Lib.hid (by rw [HM2.out, HP2.out]; simp)
                clear HM2 HP2
                have hm2 : m < as0.length := hlt
                have hm3 : (0 : Int) ≤ (m : Int) := by omega
                go_wp2_with fail
                refine region_still 11 (by kernel_rfl) (by kernel_rfl) ?_
                simp only [List.take_succ_cons, List.take_zero, List.drop_succ_cons, List.drop_zero]
                repeat (first | (refine still_load_quadG (.tmp 20) rfl ?hw1 b2 o2 rfl y RD2.out ?_; (case hw1 => go_simp)) | (refine still_load_quadG (.tmp 24) rfl ?hw2 b1 (o1 + m * 16) rfl y RD1.out ?_; (case hw2 => go_simp)) | still_step)
                refine wpStill_nil ?_
                go_wp2_with (go_at_call 63; (with_reducible refine (CMX.out _).mono ?_); rintro e w3 ⟨rfl, hb3⟩; have HB5 := Lib.hid (HBT.out.trans (((below_drewN (Below.refl _ wr) 1).trans hb3).mono HBT.out.size)); have HO5 := Lib.hid (HOT.out.below ((below_drewN (Below.refl _ wr) 1).trans hb3)); clear hb3)
                have HB6 : Hid (Below w.heap.size w w3.drew) := Lib.hid (below_drewN HB5.out 1)
                have HO6 : Hid (QOwn w.heap.size u7 done w3.drew) := Lib.hid (show QOwn w.heap.size u7 done w3.drew from HO5.out)
                have RE1 : Hid (w3.drew.rangeAt b1 (o1 + m * 16) (quadC y)) := Lib.hid (show w3.rangeAt b1 (o1 + m * 16) (quadC y) from range_below HR0.out HB5.out)
                have RE2 : Hid (w3.drew.rangeAt b2 o2 (quadC y)) := Lib.hid (show w3.rangeAt b2 o2 (quadC y) from range_below HRY.out HB5.out)
                have hm2 : m < as0.length := hlt
                have hm3 : (0 : Int) ≤ (m : Int) := by omega
                refine region_still 14 (by kernel_rfl) (by kernel_rfl) ?_
                simp only [List.take_succ_cons, List.take_zero, List.drop_succ_cons, List.drop_zero]
                repeat (first | (refine still_load_quadG (.tmp 36) rfl ?hw3 b2 o2 rfl y RE2.out ?_; (case hw3 => go_simp)) | (refine still_load_quadG (.tmp 40) rfl ?hw4 b1 (o1 + m * 16) rfl y RE1.out ?_; (case hw4 => go_simp)) | still_step)
                refine wpStill_nil ?_
                generalize w3.drew = wd2 at HB6 HO6 ⊢
                clear EQ RE1 RE2
                have HN : Hid (bothR true as0 bs0 = (done ++ [y]) ++ bothR true (as0.drop (m + 1)) (y :: ys)) := Lib.hid (by rw [HM3.out]; simp)
                clear HM3
                have RX : Hid (wd2.rangeAt b1 (o1 + m * 16) (quadC y)) := Lib.hid (range_below HR0.out (HB6.out))
                have hm2 : m < as0.length := hlt
                have hm3 : (0 : Int) ≤ (m : Int) := by omega
                go_wp2_with (first | (refine wpList_load_quad rfl (.tmp 49) rfl b1 (o1 + m * 16) ?hx9 y RX.out ?_; (case hx9 => go_simp)) | (refine wpList_build1c rfl (.tmp 50) rfl y rfl ?_) | (at_builtin; refine wpList_append_quad rfl (.tmp 46) (.tmp 51) rfl w.heap.size _ done rfl _ HO6.out y 68 rfl rfl (by omega) w HB6.out HB6.out.size ?_; intro v6 w6 ho6 hb6; have HO7 := Lib.hid ho6; have HB7 := Lib.hid hb6; clear ho6 hb6))
                go_roundw
                case rel => exact ⟨m + 1, y :: ys, done ++ [y], by go_num, hlt, HVT, HO7, HB7, by simp; omega, HLT, HN⟩
                case measure => simp [intOf]; omega
            · skip
              have EQ := fun u => eql_q y x u
              rw [decide_eq_false he] at EQ
              cases i with
              | false =>
                have HM3 : Hid (bothR false as0 bs0 = done ++ ([x] ++ bothR false (as0.drop (m + 1)) (y :: ys))) := Lib.hid (by rw [HM2.out, HP2.out]; simp [he])
                clear HM2 HP2
                have hm2 : m < as0.length := hlt
                have hm3 : (0 : Int) ≤ (m : Int) := by omega
                go_wp2_with fail
                refine region_still 11 (by kernel_rfl) (by kernel_rfl) ?_
                simp only [List.take_succ_cons, List.take_zero, List.drop_succ_cons, List.drop_zero]
                repeat (first | (refine still_load_quadG (.tmp 20) rfl ?hw1 b2 o2 rfl y RD2.out ?_; (case hw1 => go_simp)) | (refine still_load_quadG (.tmp 24) rfl ?hw2 b1 (o1 + m * 16) rfl x RD1.out ?_; (case hw2 => go_simp)) | still_step)
                refine wpStill_nil ?_
                go_wp2_with (go_at_call 63; (with_reducible refine (CMX.out _).mono ?_); rintro e w3 ⟨rfl, hb3⟩; have HB5 := Lib.hid (HBT.out.trans (((below_drewN (Below.refl _ wr) 1).trans hb3).mono HBT.out.size)); have HO5 := Lib.hid (HOT.out.below ((below_drewN (Below.refl _ wr) 1).trans hb3)); clear hb3)
                have HB6 : Hid (Below w.heap.size w w3.drew) := Lib.hid (below_drewN HB5.out 1)
                have HO6 : Hid (QOwn w.heap.size u7 done w3.drew) := Lib.hid (show QOwn w.heap.size u7 done w3.drew from HO5.out)
                have RE1 : Hid (w3.drew.rangeAt b1 (o1 + m * 16) (quadC x)) := Lib.hid (show w3.rangeAt b1 (o1 + m * 16) (quadC x) from range_below HR0.out HB5.out)
                have RE2 : Hid (w3.drew.rangeAt b2 o2 (quadC y)) := Lib.hid (show w3.rangeAt b2 o2 (quadC y) from range_below HRY.out HB5.out)
                have hm2 : m < as0.length := hlt
                have hm3 : (0 : Int) ≤ (m : Int) := by omega
                refine region_still 14 (by kernel_rfl) (by kernel_rfl) ?_
                simp only [List.take_succ_cons, List.take_zero, List.drop_succ_cons, List.drop_zero]
                repeat (first | (refine still_load_quadG (.tmp 36) rfl ?hw3 b2 o2 rfl y RE2.out ?_; (case hw3 => go_simp)) | (refine still_load_quadG (.tmp 40) rfl ?hw4 b1 (o1 + m * 16) rfl x RE1.out ?_; (case hw4 => go_simp)) | still_step)
                refine wpStill_nil ?_
                generalize w3.drew = wd2 at HB6 HO6 ⊢
                clear EQ RE1 RE2
                have HN : Hid (bothR false as0 bs0 = (done ++ [x]) ++ bothR false (as0.drop (m + 1)) (y :: ys)) := Lib.hid (by rw [HM3.out]; simp)
                clear HM3
                have RX : Hid (wd2.rangeAt b1 (o1 + m * 16) (quadC x)) := Lib.hid (range_below HR0.out (HB6.out))
                have hm2 : m < as0.length := hlt
                have hm3 : (0 : Int) ≤ (m : Int) := by omega
                go_wp2_with (first | (refine wpList_load_quad rfl (.tmp 49) rfl b1 (o1 + m * 16) ?hx9 x RX.out ?_; (case hx9 => go_simp)) | (refine wpList_build1c rfl (.tmp 50) rfl x rfl ?_) | (at_builtin; refine wpList_append_quad rfl (.tmp 46) (.tmp 51) rfl w.heap.size _ done rfl _ HO6.out x 68 rfl rfl (by omega) w HB6.out HB6.out.size ?_; intro v6 w6 ho6 hb6; have HO7 := Lib.hid ho6; have HB7 := Lib.hid hb6; clear ho6 hb6))
                go_roundw
                case rel => exact ⟨m + 1, y :: ys, done ++ [x], by go_num, hlt, HVT, HO7, HB7, by simp; omega, HLT, HN⟩
                case measure => simp [intOf]; omega
              | true =>
                have HM3 : Hid (bothR true as0 bs0 = done ++ ([] ++ bothR true (as0.drop (m + 1)) (y :: ys))) := Lib.hid (by rw [HM2.out, HP2.out]; simp [he])
                clear HM2 HP2
                have hm2 : m < as0.length := hlt
                have hm3 : (0 : Int) ≤ (m : Int) := by omega
                go_wp2_with fail
                refine region_still 11 (by kernel_rfl) (by kernel_rfl) ?_
                simp only [List.take_succ_cons, List.take_zero, List.drop_succ_cons, List.drop_zero]
                repeat (first | (refine still_load_quadG (.tmp 20) rfl ?hw1 b2 o2 rfl y RD2.out ?_; (case hw1 => go_simp)) | (refine still_load_quadG (.tmp 24) rfl ?hw2 b1 (o1 + m * 16) rfl x RD1.out ?_; (case hw2 => go_simp)) | still_step)
                refine wpStill_nil ?_
                go_wp2_with (go_at_call 63; (with_reducible refine (CMX.out _).mono ?_); rintro e w3 ⟨rfl, hb3⟩; have HB5 := Lib.hid (HBT.out.trans (((below_drewN (Below.refl _ wr) 1).trans hb3).mono HBT.out.size)); have HO5 := Lib.hid (HOT.out.below ((below_drewN (Below.refl _ wr) 1).trans hb3)); clear hb3)
                have HB6 : Hid (Below w.heap.size w w3.drew) := Lib.hid (below_drewN HB5.out 1)
                have HO6 : Hid (QOwn w.heap.size u7 done w3.drew) := Lib.hid (show QOwn w.heap.size u7 done w3.drew from HO5.out)
                have RE1 : Hid (w3.drew.rangeAt b1 (o1 + m * 16) (quadC x)) := Lib.hid (show w3.rangeAt b1 (o1 + m * 16) (quadC x) from range_below HR0.out HB5.out)
                have RE2 : Hid (w3.drew.rangeAt b2 o2 (quadC y)) := Lib.hid (show w3.rangeAt b2 o2 (quadC y) from range_below HRY.out HB5.out)
                have hm2 : m < as0.length := hlt
                have hm3 : (0 : Int) ≤ (m : Int) := by omega
                refine region_still 14 (by kernel_rfl) (by kernel_rfl) ?_
                simp only [List.take_succ_cons, List.take_zero, List.drop_succ_cons, List.drop_zero]
                repeat (first | (refine still_load_quadG (.tmp 36) rfl ?hw3 b2 o2 rfl y RE2.out ?_; (case hw3 => go_simp)) | (refine still_load_quadG (.tmp 40) rfl ?hw4 b1 (o1 + m * 16) rfl x RE1.out ?_; (case hw4 => go_simp)) | still_step)
                refine wpStill_nil ?_
                generalize w3.drew = wd2 at HB6 HO6 ⊢
                clear EQ RE1 RE2
                have HN : Hid (bothR true as0 bs0 = done ++ bothR true (as0.drop (m + 1)) (y :: ys)) := Lib.hid (by rw [HM3.out]; simp)
                clear HM3
                go_wp2_with fail
                go_roundw
                case rel => exact ⟨m + 1, y :: ys, done, by go_num, hlt, HVT, HO6, HB6, by omega, HLT, HN⟩
                case measure => simp [intOf]; omega
    · have q9 : decide ((m : Int) < (as0.length : Int)) = false := decide_eq_false (by omega)
      have q9n : decide (m < as0.length) = false := decide_eq_false hlt
      have HE : Hid (bothR i as0 bs0 = done) := Lib.hid (by rw [HM.out, List.drop_of_length_le (by omega), bothR_nil, List.append_nil])
      clear HM hlt
      go_wp2_with fail
      go_ret
      exact ⟨_, rfl, by rw [HE.out]; exact HO.out, HB.out⟩
end Go.Proofs.YthipcepgbegaiaaGreatDoor
