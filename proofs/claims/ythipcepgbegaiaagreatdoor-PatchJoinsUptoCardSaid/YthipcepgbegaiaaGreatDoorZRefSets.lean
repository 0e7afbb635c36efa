/-
  The reference's sets of quads: contracts. By an AI agent.
-/
import Derived.Test.YthipcepgbegaiaaGreatDoorZRefTerm0
import Derived.Test.YthipcepgbegaiaaGreatDoorZApp
import Derived.Test.YthipcepgbegaiaaGreatDoorZLoadQ
import Derived.Test.YthipcepgbegaiaaGreatDoorZPatch0
import Derived.IntWalk
import Derived.Deep.QuietTactic
import Derived.BigQuiet
namespace Go.Proofs.YthipcepgbegaiaaGreatDoor
open Go.RowKit
set_option maxRecDepth 100000
theorem riseR_step {l : List QuadL} {m : Nat} (h : m + 1 < l.length) : riseB (l.drop m) = (decide (cmpQ (l[m]'(by omega)) l[m + 1] < 0) && riseB (l.drop (m + 1))) := by
  have e : l.drop m = l[m]'(by omega) :: l[m + 1] :: l.drop (m + 2) := by
    rw [List.drop_eq_getElem_cons (by omega), List.drop_eq_getElem_cons h]
  rw [e, riseB, List.drop_eq_getElem_cons h]
theorem riseR_end {l : List QuadL} {m : Nat} (h : l.length ≤ m + 1) : riseB (l.drop m) = true := by
  have : (l.drop m).length ≤ 1 := by simp; omega
  match hd : l.drop m, this with
  | [], _ => rfl
  | [_], _ => rfl
  | _ :: _ :: _, h => simp at h
set_option maxHeartbeats 4000000 in
theorem refRises_l (l : List QuadL) (v : Value) (w : World) (hV : QView w v l) (hl : l.length ≤ 4194304) :
    Calls Tryz.prog 92 #[v] w fun e w' => e = .returned (.bool (riseB l)) ∧ Below w.heap.size w w' := by
  obtain ⟨a, c, rfl, _, hQ⟩ := hV
  have HQ := Lib.hid hQ
  have CM0 := Lib.hid (fun (x y : QuadL) (u : World) => refCompareQuads_l x y u)
  clear hQ
  go_enter Tryz.func92, Tryz.ntmps92
  go_wp2_with fail
  go_loopw [3] (fun i wr => ∃ m : Nat, i = .int .i64 (m + 1) ∧ m ≤ l.length ∧ Below w.heap.size w wr ∧ Hid (riseB l = riseB (l.drop m))) (fun i _ => l.length + 1 - (intOf i).toNat)
  case atStart => exact ⟨0, rfl, Nat.zero_le _, Below.refl _ _, Lib.hid rfl⟩
  case round =>
    obtain ⟨m, rfl, hm, hb, HK⟩ := hrel
    by_cases hlt2 : m + 1 < l.length
    · obtain ⟨b, o, rfl⟩ := HQ.out.place (by omega)
      have hQ2 := HQ.out.below hb
      have r1 := hQ2.get (k := m) (by omega)
      have r2 := hQ2.get (k := m + 1) hlt2
      obtain ⟨x, hx⟩ : ∃ x, l[m] = x := ⟨_, rfl⟩
      obtain ⟨y, hy⟩ : ∃ y, l[m + 1] = y := ⟨_, rfl⟩
      have HS2 := riseR_step hlt2
      rw [hx, hy] at HS2
      have HK2 := Lib.hid (HK.out.trans HS2)
      rw [hx] at r1
      rw [hy] at r2
      have R1 : Hid (wr.drew.rangeAt b (o + m * 16) (quadC x)) := Lib.hid r1
      have R2 : Hid (wr.drew.rangeAt b (o + (m + 1) * 16) (quadC y)) := Lib.hid r2
      have BB := Lib.hid hb
      clear hb hQ2 r1 r2 hx hy HS2 HK
      obtain ⟨n, hn⟩ : ∃ n, cmpQ x y = n := ⟨_, rfl⟩
      have CX := CM0.out x y
      rw [hn] at CX HK2
      have CM := Lib.hid CX
      clear CX hn
      have q8 : decide ((m : Int) + 1 < (l.length : Int)) = true := decide_eq_true (by omega)
      by_cases n0 : 0 ≤ n
      · as_aux_lemma =>
        have q9 : decide (0 ≤ n) = true := decide_eq_true n0
        have HE : Hid (riseB l = false) := Lib.hid (by rw [HK2.out, decide_eq_false (by omega)]; rfl)
        clear n0 HK2
        go_wp2_with fail
        have hm2 : m < l.length := by omega
        have hm3 : (0 : Int) ≤ (m : Int) + 1 := by omega
        have W1 : IntKind.i64.wrap (m : Int) = (m : Int) := IntWalk.i64_in _ (by omega)
        have W2 : IntKind.i64.wrap ((m : Int) + 1 - 1) = (m : Int) := by rw [show (m : Int) + 1 - 1 = m by omega]; exact W1
        have W3 : ((m : Int) + 1).toNat = m + 1 := by omega
        have hm4 : (m : Int) + 1 < (l.length : Int) := by omega
        clear q8
        refine region_still 9 (by kernel_rfl) (by kernel_rfl) ?_
        simp only [List.take_succ_cons, List.take_zero, List.drop_succ_cons, List.drop_zero]
        repeat (first | (refine still_load_quadG (.tmp 13) rfl ?hw1 b (o + m * 16) rfl x R1.out ?_; (case hw1 => go_simp)) | (refine still_load_quadG (.tmp 17) rfl ?hw2 b (o + (m + 1) * 16) rfl y R2.out ?_; (case hw2 => go_simp)) | still_step)
        refine wpStill_nil ?_
        clear W1 W2 W3
        go_wp2_with (go_at_call 63; (with_reducible refine (CM.out _).mono ?_); rintro e w3 ⟨rfl, hb3⟩; have HB3 := Lib.hid (BB.out.trans (((below_drewN (Below.refl _ wr) 1).trans hb3).mono BB.out.size)); clear hb3)
        go_ret
        exact ⟨ret_bool HE.out.symm, HB3.out⟩
      · as_aux_lemma =>
        have q9 : decide (0 ≤ n) = false := decide_eq_false n0
        have HN : Hid (riseB l = riseB (l.drop (m + 1))) := Lib.hid (by rw [HK2.out, decide_eq_true (by omega)]; rfl)
        clear n0 HK2
        go_wp2_with fail
        have hm2 : m < l.length := by omega
        have hm3 : (0 : Int) ≤ (m : Int) + 1 := by omega
        have W1 : IntKind.i64.wrap (m : Int) = (m : Int) := IntWalk.i64_in _ (by omega)
        have W2 : IntKind.i64.wrap ((m : Int) + 1 - 1) = (m : Int) := by rw [show (m : Int) + 1 - 1 = m by omega]; exact W1
        have W3 : ((m : Int) + 1).toNat = m + 1 := by omega
        have hm4 : (m : Int) + 1 < (l.length : Int) := by omega
        clear q8
        refine region_still 9 (by kernel_rfl) (by kernel_rfl) ?_
        simp only [List.take_succ_cons, List.take_zero, List.drop_succ_cons, List.drop_zero]
        repeat (first | (refine still_load_quadG (.tmp 13) rfl ?hw1 b (o + m * 16) rfl x R1.out ?_; (case hw1 => go_simp)) | (refine still_load_quadG (.tmp 17) rfl ?hw2 b (o + (m + 1) * 16) rfl y R2.out ?_; (case hw2 => go_simp)) | still_step)
        refine wpStill_nil ?_
        clear W1 W2 W3
        go_wp2_with (go_at_call 63; (with_reducible refine (CM.out _).mono ?_); rintro e w3 ⟨rfl, hb3⟩; have HB3 := Lib.hid (BB.out.trans (((below_drewN (Below.refl _ wr) 1).trans hb3).mono BB.out.size)); clear hb3)
        go_roundw
        case rel => exact ⟨m + 1, by go_num, by omega, HB3.out, HN⟩
        case measure => simp [intOf]; omega
    · as_aux_lemma =>
      have HE : Hid (riseB l = true) := Lib.hid (by rw [HK.out, riseR_end (by omega)])
      have q8 : decide ((m : Int) + 1 < (l.length : Int)) = false := decide_eq_false (by omega)
      have BB := Lib.hid hb
      clear hb HK CM0
      go_wp2_with fail
      go_ret
      exact ⟨ret_bool HE.out.symm, BB.out⟩
end Go.Proofs.YthipcepgbegaiaaGreatDoor
