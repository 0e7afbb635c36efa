/-
  names.tagReader's language: contract.  By an AI agent.
-/
import Derived.Test.YtfjcbodkjjmagaaDoorTagTail
import Derived.Deep.RegionWith
namespace Go.Proofs.YtfjcbodkjjmagaaDoor
open Go.RowKit
set_option maxRecDepth 100000

def LangPost (w w' : World) (e : Ending) (b k : Nat) (r5 : List Value) : Option (List UInt8 × List UInt8 × List (List UInt8)) → Prop
  | none => e = .returned (.bool false) ∧ w.grownBy w' (some b)
  | some (l, x, r) => e = .returned (.bool true) ∧ ∃ lv', ViewAt w' k lv' r ∧ RowAt w' b (lv' :: .string (B l) :: .string (B x) :: r5) ∧ w.grownBy w' (some b)
theorem langF_no {ps : List (List UInt8)} (h : seesF (fun p => madeB p 2 8 true) ps = false) : langF ps = none := by
  rcases ps with _ | ⟨p, r⟩
  · rfl
  · have h' : madeB p 2 8 true = false := h
    rw [langF, if_neg (by rw [h']; simp)]
theorem langF_yes {p : List UInt8} {r : List (List UInt8)} (h : madeB p 2 8 true = true) : langF (p :: r) = if 3 < p.length then some (p, [], r) else some (p, joinD (ext3 3 r).1, (ext3 3 r).2) := by
  rw [langF, if_pos h]

theorem cat45r (m : List UInt8) : B m ++ (⟨#[45]⟩ : ByteArray) = B (m ++ [45]) := B_append m [45]
attribute [go_sem] cat45r
theorem ext3_yes {n : Nat} {p : List UInt8} {r : List (List UInt8)} (hn : 0 < n) (h : madeB p 3 3 true = true) : ext3 n (p :: r) = (p :: (ext3 (n - 1) r).1, (ext3 (n - 1) r).2) := by
  obtain ⟨m, rfl⟩ := Nat.exists_eq_succ_of_ne_zero (by omega : n ≠ 0)
  rw [ext3, if_pos h]
  rfl
theorem ext3_no {n : Nat} {ps : List (List UInt8)} (h : seesF (fun p => madeB p 3 3 true) ps = false) : ext3 n ps = ([], ps) := by
  rcases n with _ | n
  · rfl
  · rcases ps with _ | ⟨p, r⟩
    · rfl
    · have h' : madeB p 3 3 true = false := h
      rw [ext3, if_neg (by rw [h']; simp)]
theorem grownBy_set (W : World) (b o : Nat) (v : Value) : W.grownBy (W.setCell ⟨b, o, none⟩ v) (some b) :=
  ⟨rfl, rfl, rfl, by simp [World.setCell], fun k _ hk => Below.heap_setCell _ _ _ k (fun e => hk (by rw [e]))⟩

set_option maxHeartbeats 3200000 in
theorem tlang_l (b k : Nat) (ps : List (List UInt8)) (lv : Value) (r5 : List Value) (w : World) (hv : ViewAt w k lv ps) (hR : RowAt w b (lv :: .string ⟨#[]⟩ :: .string ⟨#[]⟩ :: r5)) (hk : k ≠ b) (hbw : b < w.heap.size) (hp : ∀ p ∈ ps, p.length ≤ 140737488351232) :
    Calls Tryd.prog 67 #[.pointer (some ⟨b, 0, none⟩)] w fun e w' => LangPost w w' e b k r5 (langF ps) := by
  have S1 := Lib.hid (sees_lang1 b k ps lv _ w hv hR hp)
  have NEXT := Lib.hid (tnext_l b k)
  have HV := Lib.hid hv
  have HR := Lib.hid hR
  have HP := Lib.hid hp
  clear hv hR hp
  cases hq : seesF (fun p => madeB p 2 8 true) ps with
  | false =>
    have HL := Lib.hid (langF_no hq)
    rw [hq] at S1
    clear hq
    go_enter Tryd.func67, Tryd.ntmps67
    go_wp2_with (go_at_call 65; (with_reducible refine S1.out.mono ?_); rintro e w3 ⟨rfl, hb3⟩)
    go_ret
    rw [HL.out]
    exact ⟨rfl, below_grown hb3 _⟩
  | true =>
    rcases ps with _ | ⟨p, ps⟩
    · cases hq
    have hmd : madeB p 2 8 true = true := hq
    have hlF := langF_yes (r := ps) hmd
    have hp8 := (made_len hmd).2
    rw [hq] at S1
    clear hq hmd
    by_cases h3 : 3 < p.length
    · rw [if_pos h3] at hlF
      have HL := Lib.hid hlF
      clear hlF
      go_enter Tryd.func67, Tryd.ntmps67
      go_wp2_with (first | (go_at_call 65; (with_reducible refine S1.out.mono ?_); rintro e w3 ⟨rfl, hb3⟩; have HV3 := Lib.hid (HV.out.below hb3); have HR3 := Lib.hid (HR.out.below hb3 hbw); have HG3 := Lib.hid (below_grown hb3 (some b)); clear hb3) | (go_at_call 69; (with_reducible refine (NEXT.out p ps lv _ w3 HV3.out HR3.out hk).mono ?_); rintro e w4 ⟨rfl, lv4, hv4, hR4, hg4⟩; have HV4 := Lib.hid hv4; have HR4 := Lib.hid hR4; have HG4 := Lib.hid (grown_trans HG3.out hg4); have c1 := hR4.cell (j := 1) (by simp); have f1 := hR4.free (j := 1) (by simp); simp only [List.getElem_cons_succ, List.getElem_cons_zero] at c1; clear hv4 hR4 hg4) | fail)
      go_ret
      rw [HL.out]
      exact ⟨rfl, lv4, HV4.out.grown (grownBy_set w4 b 1 _) (by simpa using hk), by have h := HR4.out.set (j := 1) (by simp) (.string (B p)); simp only [List.set_cons_succ, List.set_cons_zero] at h; exact h, grown_trans HG4.out (grownBy_set w4 b 1 _)⟩
    · rw [if_neg h3] at hlF
      have HL := Lib.hid hlF
      have SL2 := Lib.hid (fun ps lv fs w => sees_lang2 b k ps lv fs w)
      have hpl : ∀ q ∈ ps, q.length ≤ 140737488351232 := fun q hq => HP.out q (by simp [hq])
      have HPL := Lib.hid hpl
      clear hlF hpl
      go_enter Tryd.func67, Tryd.ntmps67
      go_wp2_with (first | (go_at_call 65; (with_reducible refine S1.out.mono ?_); rintro e w3 ⟨rfl, hb3⟩; have HV3 := Lib.hid (HV.out.below hb3); have HR3 := Lib.hid (HR.out.below hb3 hbw); have HG3 := Lib.hid (below_grown hb3 (some b)); clear hb3) | (go_at_call 69; (with_reducible refine (NEXT.out p ps lv _ w3 HV3.out HR3.out hk).mono ?_); rintro e w4 ⟨rfl, lv4, hv4, hR4, hg4⟩; have HV4 := Lib.hid hv4; have HR4 := Lib.hid hR4; have HG4 := Lib.hid (grown_trans HG3.out hg4); have c1 := hR4.cell (j := 1) (by simp); have f1 := hR4.free (j := 1) (by simp); simp only [List.getElem_cons_succ, List.getElem_cons_zero] at c1; clear hv4 hR4 hg4) | fail)
      go_loopw [3] (fun i wr => ∃ (n : Nat) (taken left : List (List UInt8)) (lv : Value), i = .int .i64 n ∧ n ≤ 3 ∧ taken.length = n ∧ (joinD taken).length ≤ 4 * n ∧ (∀ q ∈ left, q.length ≤ 140737488351232) ∧ Hid (ext3 3 ps = (taken ++ (ext3 (3 - n) left).1, (ext3 (3 - n) left).2)) ∧ ViewAt wr k lv left ∧ RowAt wr b (lv :: .string (B p) :: .string (B (joinD taken)) :: r5) ∧ w.grownBy wr (some b)) (fun i _ => 3 - (intOf i).toNat)
      case atStart =>
        exact ⟨0, [], ps, lv4, rfl, by omega, rfl, by simp [joinD], HPL.out, Lib.hid (by simp), HV4.out.grown (grownBy_set w4 b 1 _) (by simpa using hk), by have h := HR4.out.set (j := 1) (by simp) (.string (B p)); simp only [List.set_cons_succ, List.set_cons_zero] at h; exact h, grown_trans HG4.out (grownBy_set w4 b 1 _)⟩
      case round =>
        obtain ⟨n, taken, left, lv, rfl, hn, htn, htl, hpp, HM, hv, hR, hg⟩ := hrel
        have HVr := Lib.hid hv
        have HRr := Lib.hid hR
        have HGr := Lib.hid hg
        have HPr := Lib.hid hpp
        have hbr : b < wr.heap.size := World.block_lt_of_cell? _ _ (hR.cell (j := 0) (by simp))
        by_cases hlt : n < 3
        · have S2 := Lib.hid (SL2.out left lv _ wr hv hR hpp)
          clear hv hR hg hpp
          cases hq : seesF (fun p => madeB p 3 3 true) left with
          | false =>
            have HE : Hid (ext3 3 ps = (taken, left)) := Lib.hid (by rw [HM.out, ext3_no hq]; simp)
            rw [hq] at S2
            clear hq HM
            go_wp2_with (go_at_call 65; (with_reducible refine S2.out.mono ?_); rintro e w6 ⟨rfl, hb6⟩)
            go_ret
            rw [HL.out, HE.out]
            exact ⟨rfl, lv, HVr.out.below hb6, HRr.out.below hb6 hbr, grown_trans HGr.out (below_grown hb6 _)⟩
          | true =>
            rcases left with _ | ⟨q, left⟩
            · cases hq
            have hmd : madeB q 3 3 true = true := hq
            have hql := (made_len hmd).2
            rw [hq] at S2
            have HE : Hid (ext3 3 ps = ((taken ++ [q]) ++ (ext3 (3 - (n + 1)) left).1, (ext3 (3 - (n + 1)) left).2)) := Lib.hid (by rw [HM.out, ext3_yes (by omega) hmd, show 3 - n - 1 = 3 - (n + 1) by omega]; simp)
            have NXT := Lib.hid (fun (ext : List UInt8) (u : World) (hv : ViewAt u k lv (q :: left)) (hR : RowAt u b (lv :: .string (B p) :: .string (B ext) :: r5)) => tnext_l b k q left lv (.string (B p) :: .string (B ext) :: r5) u hv hR hk)
            obtain ⟨x0, hx0⟩ : ∃ x0, joinD taken = x0 := ⟨_, rfl⟩
            rw [hx0] at HRr htl
            have SEE : Hid (∀ w6, Below wr.heap.size wr w6 → ViewAt w6 k lv (q :: left) ∧ RowAt w6 b (lv :: .string (B p) :: .string (B x0) :: r5) ∧ w.grownBy w6 (some b)) := Lib.hid (fun w6 h => ⟨HVr.out.below h, HRr.out.below h hbr, grown_trans HGr.out (below_grown h _)⟩)
            clear hq HM hmd
            by_cases h0 : n = 0
            · subst h0
              obtain rfl : taken = [] := List.eq_nil_of_length_eq_zero htn
              have hj : Hid (joinD ([] ++ [q]) = q) := Lib.hid rfl
              obtain rfl : x0 = [] := hx0.symm
              go_wp2_with (go_at_call 65; (with_reducible refine S2.out.mono ?_); rintro e w6 ⟨rfl, hb6⟩; obtain ⟨hV6, hR6, hG6⟩ := SEE.out w6 hb6; have NXA := Lib.hid (NXT.out [] w6 hV6 hR6); have NXB := Lib.hid (NXT.out [] w6.drew hV6 hR6); have e2 := hR6.cell (j := 2) (by simp); have z2 := hR6.free (j := 2) (by simp); simp only [List.getElem_cons_succ, List.getElem_cons_zero] at e2; have HG6 := Lib.hid hG6; clear hb6 hV6 hR6 hG6)
              go_region_with (go_at_call 69; first | (with_reducible refine NXA.out.mono ?_) | (with_reducible refine NXB.out.mono ?_); rintro e w7 ⟨rfl, lv7, hv7, hR7, hg7⟩; have d2 := hR7.cell (j := 2) (by simp); have g2 := hR7.free (j := 2) (by simp); simp only [List.getElem_cons_succ, List.getElem_cons_zero] at d2; have HV7 := Lib.hid hv7; have HR7 := Lib.hid hR7; have HG7 := Lib.hid hg7; clear hv7 hR7 hg7)
              all_goals go_wp2_with fail
              all_goals go_roundw
              all_goals first
                | exact ⟨0 + 1, [] ++ [q], left, lv7, by go_num, by omega, rfl, by show q.length ≤ _; omega, fun z hz => HPr.out z (by simp [hz]), HE, HV7.out.grown (grownBy_set w7 b 2 _) (by simpa using hk), (by have h := HR7.out.set (j := 2) (by simp) (.string (B q)); simp only [List.set_cons_succ, List.set_cons_zero] at h; exact h), grown_trans HG6.out (grown_trans ⟨HG7.out.os, HG7.out.tape, HG7.out.output, HG7.out.size, HG7.out.block⟩ (grownBy_set w7 b 2 _))⟩
                | (simp [intOf]; done)
            · have hn0 : 0 < n := by omega
              have hne : taken ≠ [] := fun h => by rw [h] at htn; exact h0 htn.symm
              have hj : joinD (taken ++ [q]) = x0 ++ 45 :: q := by rw [joinD_snoc _ _ hne, hx0]
              have HJ := Lib.hid hj
              have hxl : x0.length ≤ 12 := by omega
              clear hj hne
              go_wp2_with (go_at_call 65; (with_reducible refine S2.out.mono ?_); rintro e w6 ⟨rfl, hb6⟩; obtain ⟨hV6, hR6, hG6⟩ := SEE.out w6 hb6; have hV6s := hV6.grown (grownBy_set w6 b 2 (.string (B (x0 ++ [45])))) (by simpa using hk); have hR6s := hR6.set (j := 2) (by simp) (.string (B (x0 ++ [45]))); simp only [List.set_cons_succ, List.set_cons_zero] at hR6s; have NXA := Lib.hid (NXT.out (x0 ++ [45]) _ hV6s hR6s); have NXB := Lib.hid (NXT.out (x0 ++ [45]) (w6.setCell ⟨b, 2, none⟩ (.string (B (x0 ++ [45])))).drew hV6s hR6s); have e2 := hR6.cell (j := 2) (by simp); have z2 := hR6.free (j := 2) (by simp); simp only [List.getElem_cons_succ, List.getElem_cons_zero] at e2; have HG6 := Lib.hid (grown_trans hG6 (grownBy_set w6 b 2 (.string (B (x0 ++ [45]))))); clear hb6 hV6 hR6 hG6 hV6s hR6s)
              go_region_with (go_at_call 69; first | (with_reducible refine NXA.out.mono ?_) | (with_reducible refine NXB.out.mono ?_); rintro e w7 ⟨rfl, lv7, hv7, hR7, hg7⟩; have d2 := hR7.cell (j := 2) (by simp); have g2 := hR7.free (j := 2) (by simp); simp only [List.getElem_cons_succ, List.getElem_cons_zero] at d2; have HV7 := Lib.hid hv7; have HR7 := Lib.hid hR7; have HG7 := Lib.hid hg7; clear hv7 hR7 hg7)
              all_goals go_wp2_with fail
              all_goals go_roundw
              all_goals first
                | exact ⟨n + 1, taken ++ [q], left, lv7, by go_num, by omega, by simp; omega, by rw [HJ.out]; simp; omega, fun z hz => HPr.out z (by simp [hz]), HE, HV7.out.grown (grownBy_set w7 b 2 _) (by simpa using hk), (by have h := HR7.out.set (j := 2) (by simp) (.string (B (x0 ++ 45 :: q))); simp only [List.set_cons_succ, List.set_cons_zero] at h; rw [HJ.out]; exact h), grown_trans HG6.out (grown_trans ⟨HG7.out.os, HG7.out.tape, HG7.out.output, HG7.out.size, HG7.out.block⟩ (grownBy_set w7 b 2 _))⟩
                | (simp [intOf]; omega)
        · obtain rfl : n = 3 := by omega
          have HE : Hid (ext3 3 ps = (taken, left)) := Lib.hid (by rw [HM.out]; simp [ext3])
          clear hv hR hg hpp HM
          go_wp2_with fail
          go_ret
          rw [HL.out, HE.out]
          exact ⟨rfl, lv, HVr.out, HRr.out, HGr.out⟩
end Go.Proofs.YtfjcbodkjjmagaaDoor
