/-
  The reference's reader: private: contract. By an AI agent.
-/
import Derived.Test.YtfjcbodkjjmagaaDoorRefLang
namespace Go.Proofs.YtfjcbodkjjmagaaDoor
open Go.RowKit
set_option maxRecDepth 100000

def privR (ps : List (List UInt8)) : Bool := !(ps == []) && ps.all fun q => madeB q 1 8 false
theorem both18 (p : List UInt8) (w : World) (hp : p.length ≤ 140737488351232) :
    Calls Tryd.prog 75 #[.string (B p), .int .i64 1, .int .i64 8] w fun e w' => e = .returned (.bool (madeB p 1 8 false)) ∧ w' = w := both_l p 1 8 w hp (by omega) (by omega)
theorem ViewAt.at {w : World} {k o n cap : Nat} {xs : List (List UInt8)} (h : ViewAt w k (.slice (some ⟨k, o, none⟩) n cap) xs) : At w (some ⟨k, o, none⟩) (xs.map strV) := fun j hj => by
  obtain ⟨o', cap', he, _, hc⟩ := h
  injection he with h1 _ _
  injection h1 with h1
  injection h1 with _ h3
  subst h3
  refine ⟨k, o, rfl, ?_⟩
  rw [hc j (by simpa using hj)]
  simp

set_option maxHeartbeats 3200000 in
theorem rpriv_l (b tb k : Nat) (l0 l1 l2 l3 l4 l5 l6 : Value) (p : List UInt8) (ps : List (List UInt8)) (lv : Value) (w : World) (hv : ViewAt w k lv (p :: ps)) (hR : RowAt w b [lv]) (hT : RowAt w tb [l0, l1, l2, l3, l4, l5, l6])
    (hkt : k ≠ tb) (hbt : b ≠ tb) (hp : ∀ q ∈ ps, q.length ≤ 4194304) (hn : ps.length ≤ 4194305) (hj : (joinD (p :: ps)).length ≤ 16777216) :
    Calls Tryd.prog 77 #[.pointer (some ⟨b, 0, none⟩), .pointer (some ⟨tb, 0, none⟩)] w fun e w' => e = .returned (.bool (privR ps)) ∧ FrameX w w' [tb] ∧ RowAt w' tb [l0, l1, l2, l3, l4, l5, .string (B (joinD (p :: ps)))] := by
  have hbw : b < w.heap.size := World.block_lt_of_cell? _ _ (row_of hR 0 _ rfl).1
  have htw : tb < w.heap.size := World.block_lt_of_cell? _ _ (row_of hT 0 _ rfl).1
  have HV := Lib.hid hv
  have HR := Lib.hid hR
  have HT := Lib.hid hT
  obtain ⟨o, cap, rfl, hcc, hd, _⟩ := hv.cons
  have y0 := (row_of hR 0 _ rfl).1
  have JD := Lib.hid (refJoined_l (p :: ps) (some ⟨k, o, none⟩) cap w (by simp; omega) hj hv.at)
  have HP := Lib.hid hp
  rw [List.length_cons] at JD
  obtain ⟨nn, hnn⟩ : ∃ nn, ps.length + 1 = nn := ⟨_, rfl⟩
  rw [hnn] at JD HV HR y0
  have HNN := Lib.hid hnn
  have hnb : nn ≤ 4194306 := by omega
  clear hnn hcc hn
  generalize hjj : joinD (p :: ps) = jj at *
  clear hv hR hT hp hjj
  go_enter Tryd.func77, Tryd.ntmps77
  rcases ps with _ | ⟨q, r⟩
  · have hn2 : (nn : Int) < 2 := by have := HNN.out; simp at this; omega
    go_wp2_with (go_at_call 113; (with_reducible refine JD.out.mono ?_); rintro e w1 ⟨rfl, hb1⟩; have hT1 := HT.out.below hb1 htw; have x6 := (row_of hT1 6 _ rfl).1; have f6 := (row_of hT1 6 _ rfl).2; have z0 := (row_of (HR.out.below hb1 hbw) 0 _ rfl).1; have HX := Lib.hid (And.intro hT1 hb1); clear hT1 hb1)
    go_ret
    obtain ⟨hT1, hb1⟩ := HX.out
    exact ⟨rfl, (FrameX.of_below hb1 [tb]).step (grownBy_set w1 tb 6 (.string (B jj))) (fun j h => by cases h; simp), hT1.set (j := 6) (by simp) _⟩
  · have hn2 : ¬ ((nn : Int) < 2) := by have := HNN.out; simp at this; omega
    go_wp2_with (go_at_call 113; (with_reducible refine JD.out.mono ?_); rintro e w1 ⟨rfl, hb1⟩; have hT1 := HT.out.below hb1 htw; have x6 := (row_of hT1 6 _ rfl).1; have f6 := (row_of hT1 6 _ rfl).2; have hR1 := HR.out.below hb1 hbw; have z0 := (row_of hR1 0 _ rfl).1; have hgs := grownBy_set w1 tb 6 (.string (B jj)); have hl1 : b < w1.heap.size := (by have := hb1.size; omega); have HX := Lib.hid (And.intro (hT1.set (j := 6) (by simp) (.string (B jj))) (And.intro ((FrameX.of_below hb1 [tb]).step hgs (fun j h => by cases h; simp)) (And.intro ((HV.out.below hb1).grown hgs (by simpa using hkt)) (hR1.grown hgs (by simpa using hbt) hl1)))); clear hT1 hb1 hR1 hgs hl1)
    have HB : Hid (∀ z ∈ q :: r, ∀ u, Calls Tryd.prog 75 #[.string (B z), .int .i64 1, .int .i64 8] u fun e w' => e = .returned (.bool (madeB z 1 8 false)) ∧ w' = u) := Lib.hid (fun z hz u => both18 z u (Nat.le_trans (HP.out z hz) (by omega)))
    have HPR : Hid (privR (q :: r) = (q :: r).all fun q => madeB q 1 8 false) := Lib.hid rfl
    have HNQ : Hid ((q :: r).length + 1 = nn) := HNN
    obtain ⟨ps, hps⟩ : ∃ ps, q :: r = ps := ⟨_, rfl⟩
    have HPQ : Hid (privR ps = privR (q :: r)) := Lib.hid (by rw [hps])
    rw [hps] at HB HPR HNQ HX
    clear hps HP
    obtain ⟨hTs, hFs, hvs, hRs⟩ := HX.out
    have z0 := (row_of hRs 0 _ rfl).1
    have hvc : ∀ i (h : i < ps.length), (w1.setCell ⟨tb, 6, none⟩ (.string (B jj))).cell? ⟨k, o + (i + 1), none⟩ = some (.string (B ps[i])) := fun i h => by
      have := hvs.at.get (j := i + 1) (by simpa using h)
      rw [this]
      simp [strV]
    have HVC := Lib.hid hvc
    have HX2 := Lib.hid (And.intro hTs hFs)
    generalize w1.setCell ⟨tb, 6, none⟩ (.string (B jj)) = w2 at *
    clear hTs hFs hvs hRs hvc HX HV HR HT JD HNN x6 f6
    go_loop [5] (fun i => ∃ j : Nat, j ≤ ps.length ∧ i = .int .i64 (j + 1 : Nat) ∧ Hid (privR ps = (ps.drop j).all fun q => madeB q 1 8 false)) (fun i => nn - (intOf i).toNat)
    case atStart => exact ⟨0, Nat.zero_le _, rfl, Lib.hid (by rw [HPR.out]; rfl)⟩
    case round =>
      obtain ⟨j, hj, rfl, HM⟩ := hrel
      have hnq := HNQ.out
      by_cases hlt : j < ps.length
      · have hc := HVC.out j hlt
        have hst : (ps.drop j).all (fun q => madeB q 1 8 false) = (madeB ps[j] 1 8 false && (ps.drop (j + 1)).all fun q => madeB q 1 8 false) := by
          rw [List.drop_eq_getElem_cons hlt, List.all_cons]
        have BO := Lib.hid (HB.out ps[j] (List.getElem_mem ..) w2)
        obtain ⟨z, hz⟩ : ∃ z, ps[j] = z := ⟨_, rfl⟩
        rw [hz] at hc hst BO
        have hjn : j + 1 < nn := by omega
        have hjn2 : ((j : Int) + 1) < (nn : Int) := by omega
        have hjn3 : (0 : Int) ≤ (j : Int) + 1 := by omega
        have HZ := Lib.hid hz
        clear hz hnq
        cases hm : madeB z 1 8 false with
        | true =>
          have HE : Hid (privR ps = (ps.drop (j + 1)).all fun q => madeB q 1 8 false) := Lib.hid (by rw [HM.out, hst, hm, Bool.true_and])
          rw [hm] at BO
          clear hst hm HM
          go_wp2_with (go_at_call 75; (with_reducible refine BO.out.mono ?_); rintro e w3 ⟨rfl, hw3⟩; obtain rfl := hw3.symm)
          go_round
          case rel => exact ⟨j + 1, hlt, by go_num, HE⟩
          case measure => simp [intOf]; omega
        | false =>
          have HE : Hid (privR ps = false) := Lib.hid (by rw [HM.out, hst, hm, Bool.false_and])
          rw [hm] at BO
          clear hst hm HM
          go_wp2_with (go_at_call 75; (with_reducible refine BO.out.mono ?_); rintro e w3 ⟨rfl, hw3⟩; obtain rfl := hw3.symm)
          go_ret
          exact ⟨ret_bool (HE.out.symm.trans HPQ.out), HX2.out.2, HX2.out.1⟩
      · obtain rfl : j = ps.length := by omega
        have HE : Hid (privR ps = true) := Lib.hid (by rw [HM.out, List.drop_length]; rfl)
        have hge : ¬ ((ps.length : Int) + 1 < (nn : Int)) := by omega
        clear HM hnq
        go_wp2_with fail
        go_ret
        exact ⟨ret_bool (HE.out.symm.trans HPQ.out), HX2.out.2, HX2.out.1⟩
end Go.Proofs.YtfjcbodkjjmagaaDoor
