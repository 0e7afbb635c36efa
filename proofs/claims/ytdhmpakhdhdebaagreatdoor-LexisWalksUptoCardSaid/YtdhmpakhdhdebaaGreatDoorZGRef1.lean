/-
  The small tests of the reference's tag reader: contracts. By an AI agent.
  The reference's both, variant: contracts. By an AI agent.
-/
import Derived.Test.YtdhmpakhdhdebaaGreatDoorZGTag1
namespace Go.Proofs.YtdhmpakhdhdebaaGreatDoor
open Go.Lib (hid)
open Go.RowKit
set_option maxRecDepth 100000
theorem alphaC_iff (c : UInt8) : alphaC c = true ↔ (97 <= (c.toNat : Int) /\ (c.toNat : Int) <= 122) \/ (65 <= (c.toNat : Int) /\ (c.toNat : Int) <= 90) := by
 unfold alphaC; simp; omega
theorem digC_iff (c : UInt8) : digC c = true ↔ 48 <= (c.toNat : Int) /\ (c.toNat : Int) <= 57 := by
 unfold digC; simp; omega
def allFrom (f : UInt8 -> Bool) (p : List UInt8) (j : Nat) : Bool := (p.drop j).all f
theorem allFrom_end (f : UInt8 -> Bool) (p : List UInt8) : allFrom f p p.length = true := by unfold allFrom; simp
theorem allFrom_step (f : UInt8 -> Bool) {p : List UInt8} {j : Nat} (h : j < p.length) : allFrom f p j = (f p[j] && allFrom f p (j + 1)) := by
 unfold allFrom
 rw [List.drop_eq_getElem_cons h, List.all_cons]
set_option maxHeartbeats 800000 in
theorem numerals_l (p : List UInt8) (w : World) (hp : p.length <= 140737488351232) : Calls Tryz.prog 236 #[.string (B p)] w fun e w' => e = .returned (.bool (p.all digC)) /\ w' = w := by
 have HZ : Hid (p.all digC = allFrom digC p 0) := hid rfl
 go_enter Tryz.func236, Tryz.ntmps236
 go_wp2
 go_loop [3] (fun i => ∃ j : Nat, j <= p.length /\ i = .int .i64 j /\ Hid (p.all digC = allFrom digC p j)) (fun i => p.length - (intOf i).toNat)
 case atStart => exact ⟨0, Nat.zero_le _, rfl, HZ⟩
 case round =>
  clear HZ
  obtain ⟨j, hj, rfl, HM⟩ := hrel
  by_cases hlt : j < p.length
  ·have hst := allFrom_step digC hlt
   obtain ⟨c, hc⟩ : ∃ c, p[j] = c := ⟨_, rfl⟩
   rw [hc] at hst
   have hb := c.toNat_lt
   by_cases h1 : 48 <= (c.toNat : Int)
   ·by_cases h2 : (c.toNat : Int) <= 57
    ·have HE : Hid (p.all digC = allFrom digC p (j + 1)) := hid (by rw [HM.out, hst, (digC_iff c).2 (by omega), Bool.true_and])
     have HC := hid hc
     clear HM hst
     go_wp2
     go_round
     case rel => exact ⟨j + 1, hlt, by go_num, HE⟩
     case measure => simp [intOf]; omega
    ·have hno : digC c = false := by
      cases h : digC c with
      | false => rfl
      | true => have := (digC_iff c).1 h; omega
     have HE : Hid (p.all digC = false) := hid (by rw [HM.out, hst, hno, Bool.false_and])
     clear HM hst hno
     go_wp2
     go_ret
     exact ⟨ret_bool HE.out.symm, rfl⟩
   ·have hno : digC c = false := by
     cases h : digC c with
     | false => rfl
     | true => have := (digC_iff c).1 h; omega
    have HE : Hid (p.all digC = false) := hid (by rw [HM.out, hst, hno, Bool.false_and])
    clear HM hst hno
    go_wp2
    go_ret
    exact ⟨ret_bool HE.out.symm, rfl⟩
  ·obtain rfl : j = p.length := by omega
   have HE : Hid (p.all digC = true) := hid (by rw [HM.out, allFrom_end])
   clear HM
   go_wp2
   go_ret
   exact ⟨ret_bool HE.out.symm, rfl⟩
set_option maxHeartbeats 800000 in
theorem letters_l (p : List UInt8) (w : World) (hp : p.length <= 140737488351232) : Calls Tryz.prog 237 #[.string (B p)] w fun e w' => e = .returned (.bool (p.all alphaC)) /\ w' = w := by
 have HZ : Hid (p.all alphaC = allFrom alphaC p 0) := hid rfl
 go_enter Tryz.func237, Tryz.ntmps237
 go_wp2
 go_loop [3] (fun i => ∃ j : Nat, j <= p.length /\ i = .int .i64 j /\ Hid (p.all alphaC = allFrom alphaC p j)) (fun i => p.length - (intOf i).toNat)
 case atStart => exact ⟨0, Nat.zero_le _, rfl, HZ⟩
 case round =>
  clear HZ
  obtain ⟨j, hj, rfl, HM⟩ := hrel
  by_cases hlt : j < p.length
  ·have hst := allFrom_step alphaC hlt
   obtain ⟨c, hc⟩ : ∃ c, p[j] = c := ⟨_, rfl⟩
   rw [hc] at hst
   have hb := c.toNat_lt
   have hcs : (c.toNat : Int) < 65 \/ (65 <= (c.toNat : Int) /\ (c.toNat : Int) <= 90) \/ (91 <= (c.toNat : Int) /\ (c.toNat : Int) <= 96) \/ (97 <= (c.toNat : Int) /\ (c.toNat : Int) <= 122) \/ 123 <= (c.toNat : Int) := by omega
   rcases hcs with h | h | h | h | h
   ·have da : decide (97 <= (c.toNat : Int)) = false := by simp; omega
    have db : decide ((c.toNat : Int) <= 122) = true := by simp; omega
    have dc : decide (65 <= (c.toNat : Int)) = false := by simp; omega
    have dd : decide ((c.toNat : Int) <= 90) = true := by simp; omega
    have hno : alphaC c = false := by
     cases h : alphaC c with
     | false => rfl
     | true => have := (alphaC_iff c).1 h; omega
    have HE : Hid (p.all alphaC = false) := hid (by rw [HM.out, hst, hno, Bool.false_and])
    clear HM hst hno
    go_wp2
    go_ret
    exact ⟨ret_bool HE.out.symm, rfl⟩
   ·have da : decide (97 <= (c.toNat : Int)) = false := by simp; omega
    have db : decide ((c.toNat : Int) <= 122) = true := by simp; omega
    have dc : decide (65 <= (c.toNat : Int)) = true := by simp; omega
    have dd : decide ((c.toNat : Int) <= 90) = true := by simp; omega
    have HE : Hid (p.all alphaC = allFrom alphaC p (j + 1)) := hid (by rw [HM.out, hst, (alphaC_iff c).2 (by omega), Bool.true_and])
    have HC := hid hc
    clear HM hst
    go_wp2
    go_round
    case rel => exact ⟨j + 1, hlt, by go_num, HE⟩
    case measure => simp [intOf]; omega
   ·have da : decide (97 <= (c.toNat : Int)) = false := by simp; omega
    have db : decide ((c.toNat : Int) <= 122) = true := by simp; omega
    have dc : decide (65 <= (c.toNat : Int)) = true := by simp; omega
    have dd : decide ((c.toNat : Int) <= 90) = false := by simp; omega
    have hno : alphaC c = false := by
     cases h : alphaC c with
     | false => rfl
     | true => have := (alphaC_iff c).1 h; omega
    have HE : Hid (p.all alphaC = false) := hid (by rw [HM.out, hst, hno, Bool.false_and])
    clear HM hst hno
    go_wp2
    go_ret
    exact ⟨ret_bool HE.out.symm, rfl⟩
   ·have da : decide (97 <= (c.toNat : Int)) = true := by simp; omega
    have db : decide ((c.toNat : Int) <= 122) = true := by simp; omega
    have dc : decide (65 <= (c.toNat : Int)) = true := by simp; omega
    have dd : decide ((c.toNat : Int) <= 90) = false := by simp; omega
    have HE : Hid (p.all alphaC = allFrom alphaC p (j + 1)) := hid (by rw [HM.out, hst, (alphaC_iff c).2 (by omega), Bool.true_and])
    have HC := hid hc
    clear HM hst
    go_wp2
    go_round
    case rel => exact ⟨j + 1, hlt, by go_num, HE⟩
    case measure => simp [intOf]; omega
   ·have da : decide (97 <= (c.toNat : Int)) = true := by simp; omega
    have db : decide ((c.toNat : Int) <= 122) = false := by simp; omega
    have dc : decide (65 <= (c.toNat : Int)) = true := by simp; omega
    have dd : decide ((c.toNat : Int) <= 90) = false := by simp; omega
    have hno : alphaC c = false := by
     cases h : alphaC c with
     | false => rfl
     | true => have := (alphaC_iff c).1 h; omega
    have HE : Hid (p.all alphaC = false) := hid (by rw [HM.out, hst, hno, Bool.false_and])
    clear HM hst hno
    go_wp2
    go_ret
    exact ⟨ret_bool HE.out.symm, rfl⟩
  ·obtain rfl : j = p.length := by omega
   have HE : Hid (p.all alphaC = true) := hid (by rw [HM.out, allFrom_end])
   clear HM
   go_wp2
   go_ret
   exact ⟨ret_bool HE.out.symm, rfl⟩
end Go.Proofs.YtdhmpakhdhdebaaGreatDoor
namespace Go.Proofs.YtdhmpakhdhdebaaGreatDoor
open Go.Lib (hid)
open Go.RowKit
set_option maxRecDepth 100000
theorem take1 {p : List UInt8} {j : Nat} (h : j < p.length) : List.take 1 (List.drop j p) = [p[j]] := by
 rw [List.drop_eq_getElem_cons h]
 rfl
set_option maxHeartbeats 1600000 in
theorem both_l (p : List UInt8) (lo hi : Nat) (w : World) (hp : p.length <= 140737488351232) (_h1 : lo <= 1000) (_h2 : hi <= 1000) :
  Calls Tryz.prog 216 #[.string (B p), .int .i64 (lo : Int), .int .i64 (hi : Int)] w fun e w' => e = .returned (.bool (madeB p lo hi false)) /\ w' = w := by
 have LET := hid (fun c => letters_l [c] w (by simp))
 have NUM := hid (fun c => numerals_l [c] w (by simp))
 go_enter Tryz.func216, Tryz.ntmps216
 go_wp2_with fail
 go_loop [7] (fun i => ∃ j : Nat, j <= p.length /\ i = .int .i64 j /\ Hid (madeB p lo hi false = (okFrom p false j && (decide (lo <= p.length) && decide (p.length <= hi))))) (fun i => p.length - (intOf i).toNat)
 case atStart => exact ⟨0, Nat.zero_le _, rfl, hid (by unfold madeB okFrom; simp)⟩
 case round =>
  obtain ⟨j, hj, rfl, HM⟩ := hrel
  by_cases hlt : j < p.length
  ·have hst := okFrom_step (pure := false) hlt
   have ht := take1 hlt
   obtain ⟨c, hc⟩ : ∃ c, p[j] = c := ⟨_, rfl⟩
   rw [hc] at hst ht
   have LC : Hid (Calls Tryz.prog 237 #[.string (B [c])] w fun e w' => e = .returned (.bool (alphaC c)) /\ w' = w) := hid (by
    have h := LET.out c
    simp only [List.all_cons, List.all_nil, Bool.and_true] at h
    exact h)
   have NC : Hid (Calls Tryz.prog 236 #[.string (B [c])] w fun e w' => e = .returned (.bool (digC c)) /\ w' = w) := hid (by
    have h := NUM.out c
    simp only [List.all_cons, List.all_nil, Bool.and_true] at h
    exact h)
   have HC := hid hc
   clear hc
   cases ha : alphaC c with
   | true =>
    have HE : Hid (madeB p lo hi false = (okFrom p false (j + 1) && (decide (lo <= p.length) && decide (p.length <= hi)))) := hid (by rw [HM.out, hst, ha, Bool.true_or, Bool.true_and])
    rw [ha] at LC
    clear HM hst ha
    go_wp2_with (go_at_call 237; (with_reducible refine LC.out.mono ?_); rintro e w1 ⟨rfl, rfl⟩)
    go_round
    case rel => exact ⟨j + 1, hlt, by go_num, HE⟩
    case measure => simp [intOf]; omega
   | false =>
    rw [ha] at LC
    cases hd : digC c with
    | true =>
     have HE : Hid (madeB p lo hi false = (okFrom p false (j + 1) && (decide (lo <= p.length) && decide (p.length <= hi)))) := hid (by rw [HM.out, hst, ha, hd]; rfl)
     rw [hd] at NC
     clear HM hst ha hd
     go_wp2_with (first | (go_at_call 237; (with_reducible refine LC.out.mono ?_); rintro e w1 ⟨rfl, rfl⟩) | (go_at_call 236; (with_reducible refine NC.out.mono ?_); rintro e w1 ⟨rfl, rfl⟩) | fail)
     go_round
     case rel => exact ⟨j + 1, hlt, by go_num, HE⟩
     case measure => simp [intOf]; omega
    | false =>
     have HE : Hid (madeB p lo hi false = false) := hid (by rw [HM.out, hst, ha, hd]; rfl)
     rw [hd] at NC
     clear HM hst ha hd
     go_wp2_with (first | (go_at_call 237; (with_reducible refine LC.out.mono ?_); rintro e w1 ⟨rfl, rfl⟩) | (go_at_call 236; (with_reducible refine NC.out.mono ?_); rintro e w1 ⟨rfl, rfl⟩) | fail)
     go_ret
     exact ⟨ret_bool HE.out.symm, rfl⟩
  ·obtain rfl : j = p.length := by omega
   rw [okFrom_end, Bool.true_and] at HM
   by_cases hlo : lo <= p.length
   ·rw [decide_eq_true hlo, Bool.true_and] at HM
    go_wp2_with fail
    go_ret
    exact ⟨ret_bool (by rw [HM.out] <;> simp), rfl⟩
   ·rw [decide_eq_false hlo, Bool.false_and] at HM
    go_wp2_with fail
    go_ret
    exact ⟨ret_bool (by rw [HM.out] <;> rfl), rfl⟩
set_option maxHeartbeats 800000 in
theorem refVariant_l (p : List UInt8) (w : World) (hp : p.length <= 140737488351232) :
  Calls Tryz.prog 215 #[.string (B p)] w fun e w' => e = .returned (.bool (variantB p)) /\ w' = w := by
 obtain ⟨q, hq⟩ : ∃ q, madeB p 5 8 false = q := ⟨_, rfl⟩
 obtain ⟨q2, hq2⟩ : ∃ q, madeB p 4 4 false = q := ⟨_, rfl⟩
 have MA : Hid (Calls Tryz.prog 216 #[.string (B p), .int .i64 5, .int .i64 8] w fun e w' => e = .returned (.bool q) /\ w' = w) := hid (hq ▸ both_l p 5 8 w hp (by omega) (by omega))
 have MB : Hid (Calls Tryz.prog 216 #[.string (B p), .int .i64 4, .int .i64 4] w fun e w' => e = .returned (.bool q2) /\ w' = w) := hid (hq2 ▸ both_l p 4 4 w hp (by omega) (by omega))
 have hv : variantB p = (q || (q2 && digC (p.headD 0))) := by unfold variantB; rw [hq, hq2]
 have hl : q2 = true -> p.length = 4 := fun h => by rw [h] at hq2; unfold madeB at hq2; simp at hq2; omega
 rw [hv]
 clear hq hq2 hv
 cases q with
 | true =>
  go_enter Tryz.func215, Tryz.ntmps215
  go_wp2_with (go_at_call 216; (with_reducible refine MA.out.mono ?_); rintro e w1 ⟨rfl, rfl⟩)
  go_ret
  exact ⟨rfl, rfl⟩
 | false =>
  cases q2 with
  | false =>
   clear hl
   go_enter Tryz.func215, Tryz.ntmps215
   go_wp2_with (first | (go_at_call 216; (with_reducible refine MA.out.mono ?_); rintro e w1 ⟨rfl, rfl⟩) | (go_at_call 216; (with_reducible refine MB.out.mono ?_); rintro e w2 ⟨rfl, rfl⟩) | fail)
   go_ret
   exact ⟨rfl, rfl⟩
  | true =>
   have hl4 := hl rfl
   rcases p with _ | ⟨c, p⟩
   ·simp at hl4
   have NC : Hid (Calls Tryz.prog 236 #[.string (B [c])] w fun e w' => e = .returned (.bool (digC c)) /\ w' = w) := hid (by
    have h := numerals_l [c] w (by simp)
    simp only [List.all_cons, List.all_nil, Bool.and_true] at h
    exact h)
   have hpl : 1 <= (c :: p).length := by simp
   have hd : Hid ((false || (true && digC ((c :: p).headD 0))) = digC c) := hid rfl
   rw [hd.out]
   clear hl hl4
   go_enter Tryz.func215, Tryz.ntmps215
   go_wp2_with (first | (go_at_call 216; (with_reducible refine MA.out.mono ?_); rintro e w1 ⟨rfl, rfl⟩) | (go_at_call 216; (with_reducible refine MB.out.mono ?_); rintro e w2 ⟨rfl, rfl⟩) | (go_at_call 236; (with_reducible refine NC.out.mono ?_); rintro e w1 ⟨rfl, rfl⟩) | fail)
   go_ret
   exact ⟨rfl, rfl⟩
def moreB (lo hi : Nat) (d : Bool) (p : List UInt8) : Bool := (decide (lo <= p.length) && decide (p.length <= hi)) && (if d = true then p.all digC else p.all alphaC)
def seesM (f : List UInt8 -> Bool) : List (List UInt8) -> Bool
 | [] => false
 | p :: _ => f p
theorem moreB_made (lo hi : Nat) (p : List UInt8) : moreB lo hi false p = madeB p lo hi true := by
 unfold moreB madeB
 simp [Bool.and_comm]
set_option maxHeartbeats 1600000 in
theorem more_l (b k : Nat) (ps : List (List UInt8)) (lv : Value) (lo hi : Nat) (d : Bool) (w : World) (hv : ViewAt w k lv ps) (hR : RowAt w b [lv]) (hp : ∀ p ∈ ps, p.length <= 140737488351232) (_h1 : lo <= 1000) (_h2 : hi <= 1000) :
  Calls Tryz.prog 213 #[.pointer (some ⟨b, 0, none⟩), .int .i64 (lo : Int), .int .i64 (hi : Int), .bool d] w fun e w' => e = .returned (.bool (seesM (moreB lo hi d) ps)) /\ w' = w := by
 have c0 := hR.cell (j := 0) (by simp)
 simp only [List.getElem_cons_zero] at c0
 rcases ps with _ | ⟨p, ps⟩
 ·obtain ⟨o, cap, rfl⟩ := hv.empty
  clear hv hR hp
  go_enter Tryz.func213, Tryz.ntmps213
  go_wp2_with fail
  go_ret
  exact ⟨rfl, rfl⟩
 ·obtain ⟨o, cap, rfl, hcc, hd, _⟩ := hv.cons
  have hpl := hp p (by simp)
  have LET := hid (letters_l p w hpl)
  have NUM := hid (numerals_l p w hpl)
  have hz : (((ps.length : Int) + 1) == 0) = false := by simp; omega
  clear hv hR hp
  by_cases hlo : lo <= p.length
  ·have d1 : decide (p.length < lo) = false := by simp; omega
   by_cases hhi : p.length <= hi
   ·have d2 : decide (hi < p.length) = false := by simp; omega
    have HE : Hid (seesM (moreB lo hi d) (p :: ps) = (if d = true then p.all digC else p.all alphaC)) := hid (by show _ = _; simp only [seesM]; unfold moreB; rw [decide_eq_true hlo, decide_eq_true hhi]; rfl)
    rw [HE.out]
    cases d <;> (
     go_enter Tryz.func213, Tryz.ntmps213
     go_wp2_with (first | (go_at_call 237; (with_reducible refine LET.out.mono ?_); rintro e w1 ⟨rfl, rfl⟩) | (go_at_call 236; (with_reducible refine NUM.out.mono ?_); rintro e w1 ⟨rfl, rfl⟩) | fail)
     go_ret
     exact ⟨rfl, rfl⟩)
   ·have d2 : decide (hi < p.length) = true := by simp; omega
    have HE : Hid (seesM (moreB lo hi d) (p :: ps) = false) := hid (by show _ = _; simp only [seesM]; unfold moreB; rw [decide_eq_false hhi, Bool.and_false, Bool.false_and])
    rw [HE.out]
    go_enter Tryz.func213, Tryz.ntmps213
    go_wp2_with fail
    go_ret
    exact ⟨rfl, rfl⟩
  ·have d1 : decide (p.length < lo) = true := by simp; omega
   have HE : Hid (seesM (moreB lo hi d) (p :: ps) = false) := hid (by show _ = _; simp only [seesM]; unfold moreB; rw [decide_eq_false hlo, Bool.false_and, Bool.false_and])
   rw [HE.out]
   go_enter Tryz.func213, Tryz.ntmps213
   go_wp2_with fail
   go_ret
   exact ⟨rfl, rfl⟩
set_option maxHeartbeats 1600000 in
theorem rnext_l (b k : Nat) (p : List UInt8) (ps : List (List UInt8)) (lv : Value) (w : World) (hv : ViewAt w k lv (p :: ps)) (hR : RowAt w b [lv]) (hk : k ≠ b) :
  Calls Tryz.prog 214 #[.pointer (some ⟨b, 0, none⟩)] w fun e w' => e = .returned (.string (B p)) /\ ∃ lv', ViewAt w' k lv' ps /\ RowAt w' b [lv'] /\ w.grownBy w' (some b) := by
 obtain ⟨o, cap, rfl, hc, hd, hv2⟩ := hv.cons
 have c0 := hR.cell (j := 0) (by simp)
 have f0 := hR.free (j := 0) (by simp)
 simp only [List.getElem_cons_zero] at c0
 have TAIL := fun wx => run_tail (P := Tryz.prog) 190 9 Tryz.underlying190 sizeStr3 k o (ps.length + 1) cap (by omega) wx
 have hg : w.grownBy (w.setCell ⟨b, 0, none⟩ (tailSV k o (ps.length + 1) cap)) (some b) := grownBy_setCell' w b _
 have V2 := hid (hv2.grown hg (by simpa using hk))
 have R2 := hid (hR.set (j := 0) (by simp) (tailSV k o (ps.length + 1) cap))
 have HG := hid hg
 obtain ⟨tv, htv⟩ : ∃ tv, tailSV k o (ps.length + 1) cap = tv := ⟨_, rfl⟩
 have htf : ∃ ao n c, tv = .slice ao n c := by rw [<- htv]; unfold tailSV sliced; exact ⟨_, _, _, rfl⟩
 rw [htv] at V2 R2 HG TAIL
 obtain ⟨ao, n, c, rfl⟩ := htf
 clear hv hv2 hR hg htv
 go_enter Tryz.func214, Tryz.ntmps214
 go_wp2_with fail
 go_ret
 exact ⟨rfl, _, V2.out, by simpa using R2.out, HG.out⟩
end Go.Proofs.YtdhmpakhdhdebaaGreatDoor
