/-
  Which scalars may stand where, in the reference: contracts. By an AI agent.
  The pieces of a local name: contracts of the small functions. By an AI agent.
  Which scalars of a local name stand as they are, which are escaped: contracts. By an AI agent.
-/
import Derived.Test.YtfjcbodkjjmagaaDoorChars
import Derived.Test.YtfjcbodkjjmagaaDoorKit2
import Derived.Test.YtfjcbodkjjmagaaDoorGPlain
import Derived.Test.YtfjcbodkjjmagaaDoorShelf
namespace Go.Proofs.YtfjcbodkjjmagaaDoor
open Go.RowKit
set_option maxRecDepth 100000

theorem refDigit_any (r : Int) (w : World) : Calls Tryd.prog 43 #[.int .i64 r] w fun e w' => e = .returned (.bool (digitB r)) ∧ w' = w := by
  by_cases h1 : 48 ≤ r
  · by_cases h2 : r ≤ 57
    · have HF : Hid (digitB r = true) := Lib.hid (decide_eq_true ⟨h1, h2⟩)
      go_enter Tryd.func43, Tryd.ntmps43
      go_wp2
      go_ret
      exact ⟨ret_bool (Eq.trans (by first | rfl | (simp; done) | (simp; omega)) HF.out.symm), rfl⟩
    · have HF : Hid (digitB r = false) := Lib.hid (decide_eq_false (by omega))
      go_enter Tryd.func43, Tryd.ntmps43
      go_wp2
      go_ret
      exact ⟨ret_bool (Eq.trans (by first | rfl | (simp; done) | (simp; omega)) HF.out.symm), rfl⟩
  · have HF : Hid (digitB r = false) := Lib.hid (decide_eq_false (by omega))
    go_enter Tryd.func43, Tryd.ntmps43
    go_wp2
    go_ret
    exact ⟨ret_bool (Eq.trans (by first | rfl | (simp; done) | (simp; omega)) HF.out.symm), rfl⟩

def ranges14 : List (Int × Int) := (65, 90) :: (97, 122) :: ranges
def flat : List (Int × Int) → List Value
  | [] => []
  | p :: r => .int .i64 p.1 :: .int .i64 p.2 :: flat r
theorem flat_at : ∀ (l : List (Int × Int)) (k : Nat) (h : k < l.length), (flat l)[2 * k]? = some (.int .i64 l[k].1) ∧ (flat l)[2 * k + 1]? = some (.int .i64 l[k].2)
  | p :: r, 0, _ => ⟨rfl, rfl⟩
  | p :: r, k + 1, h => by
    have := flat_at r k (by simpa using h)
    rw [show 2 * (k + 1) = 2 * k + 1 + 1 by omega]
    simpa [flat] using this
def basesV : Value := .agg (flat ranges14).toArray

theorem info28 : (Tryd.prog.info? 109).map (·.size) = some 28 := by kernel_rfl
theorem flat_cells : (flat ranges14).toArray.all (·.oneCell') = true := by decide +kernel

theorem bases_any (w : World) : Calls Tryd.prog 90 #[] w fun e w' => e = .returned basesV ∧ Below w.heap.size w w' := by
  obtain ⟨cells, hcells⟩ : ∃ c, (flat ranges14).toArray = c := ⟨_, rfl⟩
  have hall := flat_cells
  have hsz : cells.size = 28 := by rw [← hcells]; rfl
  rw [hcells] at hall
  have hb : basesV = .agg cells := by rw [← hcells]; rfl
  have HC := Lib.hid hcells; have HA := Lib.hid hall; have HS := Lib.hid hsz; have HB := Lib.hid hb
  clear hcells hall hsz hb
  go_enter Tryd.func90, Tryd.ntmps90
  go_wp2_with (with_reducible refine wpList_store_row rfl 109 (.tmp 0) (.tmp 1) rfl w.heap.size rfl 109 _ cells ?h1 (heap_alloc_last w _) ?h2 ?h3 HA.out ?_)
  case h1 => rw [← HC.out]; rfl
  case h2 => rw [HS.out]; exact info28
  case h3 => rw [HS.out]; rfl
  rw [World.setRow_alloc_new]
  refine bodyPost_ret (v := basesV) ?_ rfl ⟨rfl, (Below.refl _ _).alloc (Nat.le_refl _) _⟩
  rw [results_cell_row (p := 0) (ty := 109) rfl _ _ w.heap.size 109 cells (0, 0) _ rfl (heap_alloc_last w _) Tryd.underlying109 rfl (by rw [HS.out]; exact info28), HB.out]

set_option maxHeartbeats 800000 in
theorem refBase_any (r : Int) (w : World) : Calls Tryd.prog 48 #[.int .i64 r] w fun e w' => e = .returned (.bool (baseB r)) ∧ Below w.heap.size w w' := by
  obtain ⟨cells, hcells⟩ : ∃ c, (flat ranges14).toArray = c := ⟨_, rfl⟩
  have hall := flat_cells
  have hsz : cells.size = 28 := by rw [← hcells]; rfl
  rw [hcells] at hall
  have hb : basesV = .agg cells := by rw [← hcells]; rfl
  have hat : ∀ k (h : k < ranges14.length), cells[2 * k]? = some (.int .i64 ranges14[k].1) ∧ cells[2 * k + 1]? = some (.int .i64 ranges14[k].2) := fun k h => by
    rw [← hcells]
    simpa using flat_at ranges14 k h
  have BAS : Hid (∀ w : World, Calls Tryd.prog 90 #[] w fun e w' => e = .returned (.agg cells) ∧ Below w.heap.size w w') := Lib.hid (fun w => hb ▸ bases_any w)
  have HA := Lib.hid hall; have HS := Lib.hid hsz; have HT := Lib.hid hat
  clear hcells hall hsz hb hat
  go_enter Tryd.func48, Tryd.ntmps48
  go_wp2_with (first | (go_at_call 90; refine (BAS.out _).mono ?_; rintro e w1 ⟨rfl, hb1⟩) | (with_reducible refine wpList_store_row rfl 109 (.tmp 3) (.tmp 5) rfl w1.heap.size rfl 109 _ cells rfl (heap_alloc_last w1 _) ?h2 ?h3 HA.out ?_))
  case h2 => rw [HS.out]; exact info28
  case h3 => rw [HS.out]; rfl
  rw [World.setRow_alloc_new]
  have hb2 : Below w.heap.size w (w1.alloc (.cells cells 109)) := hb1.alloc hb1.size _
  have hcell : ∀ j v, cells[j]? = some v → (w1.alloc (.cells cells 109)).cell? ⟨w1.heap.size, j, none⟩ = some v := fun j v h => by rw [World.cell?_alloc_new]; exact h
  have HCE := Lib.hid hcell
  clear hcell hb1
  go_wp2_with fail
  go_loop [4] (fun i => ∃ m k : Nat, i = .int .i64 m ∧ m ≤ 28 ∧ Hid (m = 2 * k ∧ baseB r = (ranges14.drop k).any (inOne r))) (fun i => 28 - (intOf i).toNat)
  case atStart => exact ⟨0, 0, rfl, by omega, Lib.hid ⟨rfl, rfl⟩⟩
  case round =>
    obtain ⟨m, k, rfl, hm, HK⟩ := hrel
    by_cases hlt : m < 28
    · have hk : k < ranges14.length := by have := HK.out.1; show k < 14; omega
      have t1 := HCE.out _ _ (HT.out k hk).1
      have t2 := HCE.out _ _ (HT.out k hk).2
      have hstep := HK.out.2
      rw [List.drop_eq_getElem_cons hk, List.any_cons] at hstep
      obtain ⟨p, hp⟩ : ∃ p, ranges14[k] = p := ⟨_, rfl⟩
      rw [hp] at t1 t2 hstep
      have hmk := HK.out.1
      have hm2 : m + 1 < 28 := by omega
      rw [← hmk] at t1 t2
      have HM := Lib.hid hmk
      have HST := Lib.hid hstep
      clear hp hmk hstep
      by_cases c1 : p.1 ≤ r
      · by_cases c2 : r ≤ p.2
        · have HE : Hid (baseB r = true) := Lib.hid (by rw [HST.out, inOne_true c1 c2]; rfl)
          go_wp2_with fail
          go_ret
          exact ⟨ret_bool HE.out.symm, hb2⟩
        · have HE : Hid (m + 2 = 2 * (k + 1) ∧ baseB r = (ranges14.drop (k + 1)).any (inOne r)) := Lib.hid ⟨by have := HM.out; omega, by rw [HST.out, inOne_false (.inr (by omega))]; rfl⟩
          go_wp2_with fail
          go_round
          case rel => exact ⟨m + 2, k + 1, by go_num, by have := HM.out; omega, HE⟩
          case measure => simp [intOf]; omega
      · have HE : Hid (m + 2 = 2 * (k + 1) ∧ baseB r = (ranges14.drop (k + 1)).any (inOne r)) := Lib.hid ⟨by have := HM.out; omega, by rw [HST.out, inOne_false (.inl (by omega))]; rfl⟩
        go_wp2_with fail
        go_round
        case rel => exact ⟨m + 2, k + 1, by go_num, by have := HM.out; omega, HE⟩
        case measure => simp [intOf]; omega
    · have HE : Hid (baseB r = false) := Lib.hid (by have h1 := HK.out.1; have h2 := HK.out.2; rw [show k = 14 by omega] at h2; exact h2)
      go_wp2_with fail
      go_ret
      exact ⟨ret_bool HE.out.symm, hb2⟩

theorem refStart_any (r : Int) (w : World) : Calls Tryd.prog 42 #[.int .i64 r] w fun e w' => e = .returned (.bool (startB r)) ∧ Below w.heap.size w w' := by
  have BASE := Lib.hid (refBase_any r w)
  cases hb : baseB r with
  | true =>
    have HF : Hid (startB r = true) := Lib.hid (by unfold startB; rw [hb]; rfl)
    go_enter Tryd.func42, Tryd.ntmps42
    go_wp2_with (go_at_call 48; refine BASE.out.mono ?_; rintro e w1 ⟨rfl, hb1⟩)
    go_ret
    exact ⟨ret_bool (Eq.trans (by first | rfl | (simp; done) | (simp; omega)) HF.out.symm), hb1⟩
  | false =>
    have HF : Hid (startB r = (r == 95)) := Lib.hid (by unfold startB; rw [hb, Bool.false_or]; exact (Bool.beq_eq_decide_eq _ _).symm)
    go_enter Tryd.func42, Tryd.ntmps42
    go_wp2_with (go_at_call 48; refine BASE.out.mono ?_; rintro e w1 ⟨rfl, hb1⟩)
    go_ret
    exact ⟨ret_bool HF.out.symm, hb1⟩

set_option maxHeartbeats 800000 in
theorem refFollow_any (r : Int) (w : World) : Calls Tryd.prog 44 #[.int .i64 r] w fun e w' => e = .returned (.bool (followB r)) ∧ Below w.heap.size w w' := by
  have ST := Lib.hid (refStart_any r w)
  have DIG := Lib.hid (refDigit_any r)
  cases hb : startB r with
  | true =>
    have HF : Hid (followB r = true) := Lib.hid (by unfold followB; rw [hb]; rfl)
    go_enter Tryd.func44, Tryd.ntmps44
    go_wp2_with (first | (go_at_call 42; refine ST.out.mono ?_; rintro e w1 ⟨rfl, hb1⟩) | (go_at_call 43; refine (DIG.out _).mono ?_; rintro e w2 ⟨rfl, rfl⟩))
    go_ret
    exact ⟨ret_bool HF.out.symm, ‹_›⟩
  | false =>
    by_cases h45 : r = 45
    · subst h45
      have HF : Hid (followB 45 = true) := Lib.hid (by unfold followB; rw [hb]; decide)
      go_enter Tryd.func44, Tryd.ntmps44
      go_wp2_with (first | (go_at_call 42; refine ST.out.mono ?_; rintro e w1 ⟨rfl, hb1⟩) | (go_at_call 43; refine (DIG.out _).mono ?_; rintro e w2 ⟨rfl, rfl⟩))
      go_ret
      exact ⟨ret_bool HF.out.symm, ‹_›⟩
    have e45 : (r == 45) = false := beq_eq_false_iff_ne.2 h45
    cases hd : digitB r with
    | true =>
      have HF : Hid (followB r = true) := Lib.hid (by unfold followB; rw [hb, hd]; rfl)
      clear h45
      go_enter Tryd.func44, Tryd.ntmps44
      go_wp2_with (first | (go_at_call 42; refine ST.out.mono ?_; rintro e w1 ⟨rfl, hb1⟩) | (go_at_call 43; refine (DIG.out _).mono ?_; rintro e w2 ⟨rfl, rfl⟩))
      go_ret
      exact ⟨ret_bool HF.out.symm, ‹_›⟩
    | false =>
      have HF : ∀ q, (decide (r = 45) || decide (r = 183) || decide (768 ≤ r ∧ r ≤ 879) || decide (8255 ≤ r ∧ r ≤ 8256)) = q → followB r = q := fun q h => by unfold followB; rw [hb, hd, ← h]; simp only [Bool.or_assoc, Bool.false_or]
      have HH := Lib.hid HF
      clear HF
      by_cases h183 : r = 183
      · have HQ := Lib.hid (HH.out true (by rw [decide_eq_true h183]; simp))
        have e183 : (r == 183) = true := beq_iff_eq.2 h183
        clear h183 h45
        go_enter Tryd.func44, Tryd.ntmps44
        go_wp2_with (first | (go_at_call 42; refine ST.out.mono ?_; rintro e w1 ⟨rfl, hb1⟩) | (go_at_call 43; refine (DIG.out _).mono ?_; rintro e w2 ⟨rfl, rfl⟩))
        go_ret
        exact ⟨ret_bool HQ.out.symm, ‹_›⟩
      have e183 : (r == 183) = false := beq_eq_false_iff_ne.2 h183
      by_cases hm : 768 ≤ r ∧ r ≤ 879
      · have HQ := Lib.hid (HH.out true (by rw [decide_eq_true hm]; simp))
        obtain ⟨m1, m2⟩ := hm
        clear h183 h45
        go_enter Tryd.func44, Tryd.ntmps44
        go_wp2_with (first | (go_at_call 42; refine ST.out.mono ?_; rintro e w1 ⟨rfl, hb1⟩) | (go_at_call 43; refine (DIG.out _).mono ?_; rintro e w2 ⟨rfl, rfl⟩))
        go_ret
        exact ⟨ret_bool HQ.out.symm, ‹_›⟩
      by_cases h3 : r = 8255
      · subst h3
        have HQ := Lib.hid (HH.out true (by decide))
        clear h183 h45 hm
        go_enter Tryd.func44, Tryd.ntmps44
        go_wp2_with (first | (go_at_call 42; refine ST.out.mono ?_; rintro e w1 ⟨rfl, hb1⟩) | (go_at_call 43; refine (DIG.out _).mono ?_; rintro e w2 ⟨rfl, rfl⟩))
        go_ret
        exact ⟨ret_bool HQ.out.symm, ‹_›⟩
      by_cases h4 : r = 8256
      · subst h4
        have HQ := Lib.hid (HH.out true (by decide))
        clear h183 h45 hm
        go_enter Tryd.func44, Tryd.ntmps44
        go_wp2_with (first | (go_at_call 42; refine ST.out.mono ?_; rintro e w1 ⟨rfl, hb1⟩) | (go_at_call 43; refine (DIG.out _).mono ?_; rintro e w2 ⟨rfl, rfl⟩))
        go_ret
        exact ⟨ret_bool HQ.out.symm, ‹_›⟩
      have HQ := Lib.hid (HH.out false (by rw [decide_eq_false h45, decide_eq_false h183, decide_eq_false hm, decide_eq_false (p := 8255 ≤ r ∧ r ≤ 8256) (by omega)]; rfl))
      have e3 : (r == 8255) = false := beq_eq_false_iff_ne.2 h3
      have e4 : (r == 8256) = false := beq_eq_false_iff_ne.2 h4
      by_cases a1 : 768 ≤ r
      · have a2 : decide (r ≤ 879) = false := decide_eq_false (by omega)
        clear h183 h45 hm h3 h4
        go_enter Tryd.func44, Tryd.ntmps44
        go_wp2_with (first | (go_at_call 42; refine ST.out.mono ?_; rintro e w1 ⟨rfl, hb1⟩) | (go_at_call 43; refine (DIG.out _).mono ?_; rintro e w2 ⟨rfl, rfl⟩))
        go_ret
        exact ⟨ret_bool HQ.out.symm, ‹_›⟩
      · clear h183 h45 hm h3 h4
        go_enter Tryd.func44, Tryd.ntmps44
        go_wp2_with (first | (go_at_call 42; refine ST.out.mono ?_; rintro e w1 ⟨rfl, hb1⟩) | (go_at_call 43; refine (DIG.out _).mono ?_; rintro e w2 ⟨rfl, rfl⟩))
        go_ret
        exact ⟨ret_bool HQ.out.symm, ‹_›⟩
end Go.Proofs.YtfjcbodkjjmagaaDoor

namespace Go.Proofs.YtfjcbodkjjmagaaDoor
open Go.RowKit
set_option maxRecDepth 100000

set_option maxHeartbeats 800000 in
theorem hex_any (c : UInt8) (w : World) : Calls Tryd.prog 95 #[.int .u8 (c.toNat : Int)] w fun e w' => e = .returned (.bool (hexB (c.toNat : Int))) ∧ w' = w := by
  obtain ⟨x, hx⟩ : ∃ x : Int, (c.toNat : Int) = x := ⟨_, rfl⟩
  rw [hx]
  clear hx
  have hc : x < 48 ∨ (48 ≤ x ∧ x ≤ 57) ∨ (58 ≤ x ∧ x ≤ 64) ∨ (65 ≤ x ∧ x ≤ 70) ∨ (71 ≤ x ∧ x ≤ 96) ∨ (97 ≤ x ∧ x ≤ 102) ∨ 103 ≤ x := by omega
  obtain ⟨q, hq⟩ : ∃ q, hexB x = q := ⟨_, rfl⟩
  have hv : (q = true ↔ ((48 ≤ x ∧ x ≤ 57) ∨ (97 ≤ x ∧ x ≤ 102) ∨ (65 ≤ x ∧ x ≤ 70))) := by rw [← hq]; unfold hexB; simp [or_assoc]
  rw [hq]
  clear hq
  rcases hc with h | h | h | h | h | h | h
  · obtain rfl : q = false := by cases q; rfl; have := hv.1 rfl; omega
    clear hv
    go_enter Tryd.func95, Tryd.ntmps95
    go_wp2
    go_ret
    exact ⟨ret_bool (by first | rfl | (simp; done) | (simp; omega)), rfl⟩
  · obtain rfl : q = true := hv.2 (by omega)
    obtain ⟨h1, h2⟩ := h
    clear hv
    go_enter Tryd.func95, Tryd.ntmps95
    go_wp2
    go_ret
    exact ⟨ret_bool (by first | rfl | (simp; done) | (simp; omega)), rfl⟩
  · obtain rfl : q = false := by cases q; rfl; have := hv.1 rfl; omega
    obtain ⟨h1, h2⟩ := h
    clear hv
    go_enter Tryd.func95, Tryd.ntmps95
    go_wp2
    go_ret
    exact ⟨ret_bool (by first | rfl | (simp; done) | (simp; omega)), rfl⟩
  · obtain rfl : q = true := hv.2 (by omega)
    obtain ⟨h1, h2⟩ := h
    clear hv
    go_enter Tryd.func95, Tryd.ntmps95
    go_wp2
    go_ret
    exact ⟨ret_bool (by first | rfl | (simp; done) | (simp; omega)), rfl⟩
  · obtain rfl : q = false := by cases q; rfl; have := hv.1 rfl; omega
    obtain ⟨h1, h2⟩ := h
    clear hv
    go_enter Tryd.func95, Tryd.ntmps95
    go_wp2
    go_ret
    exact ⟨ret_bool (by first | rfl | (simp; done) | (simp; omega)), rfl⟩
  · obtain rfl : q = true := hv.2 (by omega)
    obtain ⟨h1, h2⟩ := h
    clear hv
    go_enter Tryd.func95, Tryd.ntmps95
    go_wp2
    go_ret
    exact ⟨ret_bool (by first | rfl | (simp; done) | (simp; omega)), rfl⟩
  · obtain rfl : q = false := by cases q; rfl; have := hv.1 rfl; omega
    clear hv
    go_enter Tryd.func95, Tryd.ntmps95
    go_wp2
    go_ret
    exact ⟨ret_bool (by first | rfl | (simp; done) | (simp; omega)), rfl⟩

set_option maxHeartbeats 800000 in
theorem refHex_any (c : UInt8) (w : World) : Calls Tryd.prog 97 #[.int .u8 (c.toNat : Int)] w fun e w' => e = .returned (.bool (hexB (c.toNat : Int))) ∧ w' = w := by
  obtain ⟨x, hx⟩ : ∃ x : Int, (c.toNat : Int) = x := ⟨_, rfl⟩
  rw [hx]
  clear hx
  have hc : x < 48 ∨ (48 ≤ x ∧ x ≤ 57) ∨ (58 ≤ x ∧ x ≤ 64) ∨ (65 ≤ x ∧ x ≤ 70) ∨ (71 ≤ x ∧ x ≤ 96) ∨ (97 ≤ x ∧ x ≤ 102) ∨ 103 ≤ x := by omega
  obtain ⟨q, hq⟩ : ∃ q, hexB x = q := ⟨_, rfl⟩
  have hv : (q = true ↔ ((48 ≤ x ∧ x ≤ 57) ∨ (97 ≤ x ∧ x ≤ 102) ∨ (65 ≤ x ∧ x ≤ 70))) := by rw [← hq]; unfold hexB; simp [or_assoc]
  rw [hq]
  clear hq
  rcases hc with h | h | h | h | h | h | h
  · obtain rfl : q = false := by cases q; rfl; have := hv.1 rfl; omega
    clear hv
    go_enter Tryd.func97, Tryd.ntmps97
    go_wp2
    go_ret
    exact ⟨ret_bool (by first | rfl | (simp; done) | (simp; omega)), rfl⟩
  · obtain rfl : q = true := hv.2 (by omega)
    obtain ⟨h1, h2⟩ := h
    clear hv
    go_enter Tryd.func97, Tryd.ntmps97
    go_wp2
    go_ret
    exact ⟨ret_bool (by first | rfl | (simp; done) | (simp; omega)), rfl⟩
  · obtain rfl : q = false := by cases q; rfl; have := hv.1 rfl; omega
    obtain ⟨h1, h2⟩ := h
    clear hv
    go_enter Tryd.func97, Tryd.ntmps97
    go_wp2
    go_ret
    exact ⟨ret_bool (by first | rfl | (simp; done) | (simp; omega)), rfl⟩
  · obtain rfl : q = true := hv.2 (by omega)
    obtain ⟨h1, h2⟩ := h
    clear hv
    go_enter Tryd.func97, Tryd.ntmps97
    go_wp2
    go_ret
    exact ⟨ret_bool (by first | rfl | (simp; done) | (simp; omega)), rfl⟩
  · obtain rfl : q = false := by cases q; rfl; have := hv.1 rfl; omega
    obtain ⟨h1, h2⟩ := h
    clear hv
    go_enter Tryd.func97, Tryd.ntmps97
    go_wp2
    go_ret
    exact ⟨ret_bool (by first | rfl | (simp; done) | (simp; omega)), rfl⟩
  · obtain rfl : q = true := hv.2 (by omega)
    obtain ⟨h1, h2⟩ := h
    clear hv
    go_enter Tryd.func97, Tryd.ntmps97
    go_wp2
    go_ret
    exact ⟨ret_bool (by first | rfl | (simp; done) | (simp; omega)), rfl⟩
  · obtain rfl : q = false := by cases q; rfl; have := hv.1 rfl; omega
    clear hv
    go_enter Tryd.func97, Tryd.ntmps97
    go_wp2
    go_ret
    exact ⟨ret_bool (by first | rfl | (simp; done) | (simp; omega)), rfl⟩

theorem percent_l (r : List UInt8) (w : World) (hl : r.length ≤ maxLen) : Calls Tryd.prog 52 #[.string (B r)] w fun e w' => e = .returned (.bool (percB r)) ∧ w' = w := by
  unfold maxLen at hl
  have HEX := Lib.hid hex_any
  by_cases h3 : r.length < 3
  · have HE := Lib.hid (percB_short h3)
    go_enter Tryd.func52, Tryd.ntmps52
    go_wp2_with fail
    go_ret
    exact ⟨ret_bool HE.out.symm, rfl⟩
  have h3' : 3 ≤ r.length := by omega
  have hw := percB_at h3'
  obtain ⟨a, ha0⟩ : ∃ a, r[0] = a := ⟨_, rfl⟩
  obtain ⟨b, hb0⟩ : ∃ b, r[1] = b := ⟨_, rfl⟩
  obtain ⟨c, hc0⟩ : ∃ c, r[2] = c := ⟨_, rfl⟩
  rw [ha0, hb0, hc0] at hw
  have hi0 : 0 < r.length := by omega
  have hi1 : 1 < r.length := by omega
  have hi2 : 2 < r.length := by omega
  by_cases ha : a = 37
  · have e1 : ((a.toNat : Int) == 37) = true := byte_eq ha
    rw [decide_eq_true ha, Bool.true_and] at hw
    clear ha
    cases hb : hexB (b.toNat : Int) with
    | false =>
      have HE : Hid (percB r = false) := Lib.hid (by rw [hw, hb]; rfl)
      clear hw
      go_enter Tryd.func52, Tryd.ntmps52
      go_wp2_with (go_at_call 95; refine (HEX.out _ _).mono ?_; rintro e w1 ⟨rfl, rfl⟩)
      go_ret
      exact ⟨ret_bool HE.out.symm, rfl⟩
    | true =>
      have HE : Hid (percB r = hexB (c.toNat : Int)) := Lib.hid (by rw [hw, hb]; rfl)
      clear hw
      go_enter Tryd.func52, Tryd.ntmps52
      go_wp2_with (go_at_call 95; refine (HEX.out _ _).mono ?_; rintro e w1 ⟨rfl, rfl⟩)
      go_ret
      exact ⟨ret_bool HE.out.symm, rfl⟩
  · have e1 : ((a.toNat : Int) == 37) = false := byte_ne ha
    have HE : Hid (percB r = false) := Lib.hid (by rw [hw, decide_eq_false ha]; rfl)
    clear hw ha
    go_enter Tryd.func52, Tryd.ntmps52
    go_wp2_with fail
    go_ret
    exact ⟨ret_bool HE.out.symm, rfl⟩

theorem refPercent_l (l : List UInt8) (i : Nat) (w : World) (hl : l.length ≤ 4611686018427387904) (hi : i ≤ l.length) :
    Calls Tryd.prog 55 #[.string (B l), .int .i64 (i : Int)] w fun e w' => e = .returned (.bool (percB (l.drop i))) ∧ w' = w := by
  have HEX := Lib.hid refHex_any
  by_cases h3 : l.length ≤ i + 2
  · have HE := Lib.hid (percB_short (r := l.drop i) (by simp; omega))
    go_enter Tryd.func55, Tryd.ntmps55
    go_wp2_with fail
    go_ret
    exact ⟨ret_bool HE.out.symm, rfl⟩
  have h3' : i + 2 < l.length := by omega
  have hw := percB_at (r := l.drop i) (by simp; omega)
  simp only [List.getElem_drop, Nat.add_zero] at hw
  obtain ⟨a, ha0⟩ : ∃ a, l[i] = a := ⟨_, rfl⟩
  obtain ⟨b, hb0⟩ : ∃ b, l[i + 1] = b := ⟨_, rfl⟩
  obtain ⟨c, hc0⟩ : ∃ c, l[i + 2] = c := ⟨_, rfl⟩
  rw [ha0, hb0, hc0] at hw
  have hi1 : i < l.length := by omega
  have hi2 : i + 1 < l.length := by omega
  by_cases ha : a = 37
  · have e1 : ((a.toNat : Int) == 37) = true := byte_eq ha
    rw [decide_eq_true ha, Bool.true_and] at hw
    clear ha
    cases hb : hexB (b.toNat : Int) with
    | false =>
      have HE : Hid (percB (l.drop i) = false) := Lib.hid (by rw [hw, hb]; rfl)
      clear hw
      go_enter Tryd.func55, Tryd.ntmps55
      go_wp2_with (go_at_call 97; refine (HEX.out _ _).mono ?_; rintro e w1 ⟨rfl, rfl⟩)
      go_ret
      exact ⟨ret_bool HE.out.symm, rfl⟩
    | true =>
      have HE : Hid (percB (l.drop i) = hexB (c.toNat : Int)) := Lib.hid (by rw [hw, hb]; rfl)
      clear hw
      go_enter Tryd.func55, Tryd.ntmps55
      go_wp2_with (go_at_call 97; refine (HEX.out _ _).mono ?_; rintro e w1 ⟨rfl, rfl⟩)
      go_ret
      exact ⟨ret_bool HE.out.symm, rfl⟩
  · have e1 : ((a.toNat : Int) == 37) = false := byte_ne ha
    have HE : Hid (percB (l.drop i) = false) := Lib.hid (by rw [hw, decide_eq_false ha]; rfl)
    clear hw ha
    go_enter Tryd.func55, Tryd.ntmps55
    go_wp2_with fail
    go_ret
    exact ⟨ret_bool HE.out.symm, rfl⟩
end Go.Proofs.YtfjcbodkjjmagaaDoor

namespace Go.Proofs.YtfjcbodkjjmagaaDoor
open Go.RowKit
set_option maxRecDepth 100000

theorem stands58 (f l : Bool) : standsB 58 f l = true := by unfold standsB; rfl
theorem stands_first {r : Int} (h : r ≠ 58) (l : Bool) : standsB r true l = (startB r || digitB r) := by unfold standsB; rw [decide_eq_false h, Bool.false_or]
theorem stands_last {r : Int} (h : r ≠ 58) : standsB r false true = followB r := by unfold standsB; rw [decide_eq_false h, Bool.false_or]
theorem stands_mid {r : Int} (h : r ≠ 58) : standsB r false false = (followB r || decide (r = 46)) := by unfold standsB; rw [decide_eq_false h, Bool.false_or]

set_option maxHeartbeats 800000 in
theorem stands_any (r : Int) (f l : Bool) (w : World) (hT : TabAt w) : Calls Tryd.prog 50 #[.int .i32 r, .bool f, .bool l] w fun e w' => e = .returned (.bool (standsB r f l)) ∧ w' = w := by
  have ST := Lib.hid (fun r => start_any r w hT); have DIG := Lib.hid digit_any; have FOL := Lib.hid (fun r => follow_any r w hT)
  clear hT
  by_cases h58 : r = 58
  · subst h58
    have HE := Lib.hid (stands58 f l)
    go_enter Tryd.func50, Tryd.ntmps50
    go_wp2_with (first | (go_at_call 86; refine (ST.out r).mono ?_; rintro e w1 ⟨rfl, rfl⟩) | (go_at_call 87; refine (DIG.out r _).mono ?_; rintro e w1 ⟨rfl, rfl⟩) | (go_at_call 85; refine (FOL.out r).mono ?_; rintro e w1 ⟨rfl, rfl⟩))
    go_ret
    exact ⟨ret_bool HE.out.symm, rfl⟩
  have e58 : (r == 58) = false := beq_eq_false_iff_ne.2 h58
  cases f with
  | true =>
    cases hs : startB r with
    | true =>
      have HE : Hid (standsB r true l = true) := Lib.hid (by rw [stands_first h58, hs]; rfl)
      clear h58
      go_enter Tryd.func50, Tryd.ntmps50
      go_wp2_with (first | (go_at_call 86; refine (ST.out r).mono ?_; rintro e w1 ⟨rfl, rfl⟩) | (go_at_call 87; refine (DIG.out r _).mono ?_; rintro e w1 ⟨rfl, rfl⟩) | (go_at_call 85; refine (FOL.out r).mono ?_; rintro e w1 ⟨rfl, rfl⟩))
      go_ret
      exact ⟨ret_bool HE.out.symm, rfl⟩
    | false =>
      have HE : Hid (standsB r true l = digitB r) := Lib.hid (by rw [stands_first h58, hs]; rfl)
      clear h58
      go_enter Tryd.func50, Tryd.ntmps50
      go_wp2_with (first | (go_at_call 86; refine (ST.out r).mono ?_; rintro e w1 ⟨rfl, rfl⟩) | (go_at_call 87; refine (DIG.out r _).mono ?_; rintro e w1 ⟨rfl, rfl⟩) | (go_at_call 85; refine (FOL.out r).mono ?_; rintro e w1 ⟨rfl, rfl⟩))
      go_ret
      exact ⟨ret_bool HE.out.symm, rfl⟩
  | false =>
    cases l with
    | true =>
      have HE : Hid (standsB r false true = followB r) := Lib.hid (stands_last h58)
      clear h58
      go_enter Tryd.func50, Tryd.ntmps50
      go_wp2_with (first | (go_at_call 86; refine (ST.out r).mono ?_; rintro e w1 ⟨rfl, rfl⟩) | (go_at_call 87; refine (DIG.out r _).mono ?_; rintro e w1 ⟨rfl, rfl⟩) | (go_at_call 85; refine (FOL.out r).mono ?_; rintro e w1 ⟨rfl, rfl⟩))
      go_ret
      exact ⟨ret_bool HE.out.symm, rfl⟩
    | false =>
      cases hf : followB r with
      | true =>
        have HE : Hid (standsB r false false = true) := Lib.hid (by rw [stands_mid h58, hf]; rfl)
        clear h58
        go_enter Tryd.func50, Tryd.ntmps50
        go_wp2_with (first | (go_at_call 86; refine (ST.out r).mono ?_; rintro e w1 ⟨rfl, rfl⟩) | (go_at_call 87; refine (DIG.out r _).mono ?_; rintro e w1 ⟨rfl, rfl⟩) | (go_at_call 85; refine (FOL.out r).mono ?_; rintro e w1 ⟨rfl, rfl⟩))
        go_ret
        exact ⟨ret_bool HE.out.symm, rfl⟩
      | false =>
        have HE : Hid (standsB r false false = (r == 46)) := Lib.hid (by rw [stands_mid h58, hf, Bool.false_or]; exact (Bool.beq_eq_decide_eq _ _).symm)
        clear h58
        go_enter Tryd.func50, Tryd.ntmps50
        go_wp2_with (first | (go_at_call 86; refine (ST.out r).mono ?_; rintro e w1 ⟨rfl, rfl⟩) | (go_at_call 87; refine (DIG.out r _).mono ?_; rintro e w1 ⟨rfl, rfl⟩) | (go_at_call 85; refine (FOL.out r).mono ?_; rintro e w1 ⟨rfl, rfl⟩))
        go_ret
        exact ⟨ret_bool HE.out.symm, rfl⟩

set_option maxHeartbeats 800000 in
theorem may_any (r : Int) (f l : Bool) (w : World) : Calls Tryd.prog 56 #[.int .i64 r, .bool f, .bool l] w fun e w' => e = .returned (.bool (standsB r f l)) ∧ Below w.heap.size w w' := by
  have ST := Lib.hid refStart_any; have DIG := Lib.hid refDigit_any; have FOL := Lib.hid refFollow_any
  by_cases h58 : r = 58
  · have HE : Hid (standsB r f l = true) := Lib.hid (by rw [h58]; exact stands58 f l)
    have b1 : startB r = false := by rw [h58]; decide
    have b2 : followB r = false := by rw [h58]; decide
    have e58 : (r == 58) = true := beq_iff_eq.2 h58
    clear h58
    cases f with
    | true =>
      go_enter Tryd.func56, Tryd.ntmps56
      go_wp2_with (first | (go_at_call 42; refine (ST.out r _).mono ?_; rintro e w1 ⟨rfl, hb⟩) | (go_at_call 43; refine (DIG.out r _).mono ?_; rintro e w2 ⟨rfl, rfl⟩) | (go_at_call 44; refine (FOL.out r _).mono ?_; rintro e w1 ⟨rfl, hb⟩))
      go_ret
      exact ⟨ret_bool HE.out.symm, hb⟩
    | false =>
      cases l with
      | true =>
        go_enter Tryd.func56, Tryd.ntmps56
        go_wp2_with (first | (go_at_call 42; refine (ST.out r _).mono ?_; rintro e w1 ⟨rfl, hb⟩) | (go_at_call 43; refine (DIG.out r _).mono ?_; rintro e w2 ⟨rfl, rfl⟩) | (go_at_call 44; refine (FOL.out r _).mono ?_; rintro e w1 ⟨rfl, hb⟩))
        go_ret
        exact ⟨ret_bool HE.out.symm, hb⟩
      | false =>
        go_enter Tryd.func56, Tryd.ntmps56
        go_wp2_with (first | (go_at_call 42; refine (ST.out r _).mono ?_; rintro e w1 ⟨rfl, hb⟩) | (go_at_call 43; refine (DIG.out r _).mono ?_; rintro e w2 ⟨rfl, rfl⟩) | (go_at_call 44; refine (FOL.out r _).mono ?_; rintro e w1 ⟨rfl, hb⟩))
        go_ret
        exact ⟨ret_bool HE.out.symm, hb⟩
  have e58 : (r == 58) = false := beq_eq_false_iff_ne.2 h58
  cases f with
  | true =>
    cases hs : startB r with
    | true =>
      have HE : Hid (standsB r true l = true) := Lib.hid (by rw [stands_first h58, hs]; rfl)
      clear h58
      go_enter Tryd.func56, Tryd.ntmps56
      go_wp2_with (first | (go_at_call 42; refine (ST.out r _).mono ?_; rintro e w1 ⟨rfl, hb⟩) | (go_at_call 43; refine (DIG.out r _).mono ?_; rintro e w2 ⟨rfl, rfl⟩) | (go_at_call 44; refine (FOL.out r _).mono ?_; rintro e w1 ⟨rfl, hb⟩))
      go_ret
      exact ⟨ret_bool HE.out.symm, hb⟩
    | false =>
      have HE : Hid (standsB r true l = digitB r) := Lib.hid (by rw [stands_first h58, hs]; rfl)
      clear h58
      go_enter Tryd.func56, Tryd.ntmps56
      go_wp2_with (first | (go_at_call 42; refine (ST.out r _).mono ?_; rintro e w1 ⟨rfl, hb⟩) | (go_at_call 43; refine (DIG.out r _).mono ?_; rintro e w2 ⟨rfl, rfl⟩) | (go_at_call 44; refine (FOL.out r _).mono ?_; rintro e w1 ⟨rfl, hb⟩))
      go_ret
      exact ⟨ret_bool HE.out.symm, hb⟩
  | false =>
    cases l with
    | true =>
      cases hf : followB r with
      | true =>
        have HE : Hid (standsB r false true = true) := Lib.hid (by rw [stands_last h58, hf])
        clear h58
        go_enter Tryd.func56, Tryd.ntmps56
        go_wp2_with (first | (go_at_call 42; refine (ST.out r _).mono ?_; rintro e w1 ⟨rfl, hb⟩) | (go_at_call 43; refine (DIG.out r _).mono ?_; rintro e w2 ⟨rfl, rfl⟩) | (go_at_call 44; refine (FOL.out r _).mono ?_; rintro e w1 ⟨rfl, hb⟩))
        go_ret
        exact ⟨ret_bool HE.out.symm, hb⟩
      | false =>
        have HE : Hid (standsB r false true = false) := Lib.hid (by rw [stands_last h58, hf])
        clear h58
        go_enter Tryd.func56, Tryd.ntmps56
        go_wp2_with (first | (go_at_call 42; refine (ST.out r _).mono ?_; rintro e w1 ⟨rfl, hb⟩) | (go_at_call 43; refine (DIG.out r _).mono ?_; rintro e w2 ⟨rfl, rfl⟩) | (go_at_call 44; refine (FOL.out r _).mono ?_; rintro e w1 ⟨rfl, hb⟩))
        go_ret
        exact ⟨ret_bool HE.out.symm, hb⟩
    | false =>
      cases hf : followB r with
      | true =>
        have HE : Hid (standsB r false false = true) := Lib.hid (by rw [stands_mid h58, hf]; rfl)
        clear h58
        go_enter Tryd.func56, Tryd.ntmps56
        go_wp2_with (first | (go_at_call 42; refine (ST.out r _).mono ?_; rintro e w1 ⟨rfl, hb⟩) | (go_at_call 43; refine (DIG.out r _).mono ?_; rintro e w2 ⟨rfl, rfl⟩) | (go_at_call 44; refine (FOL.out r _).mono ?_; rintro e w1 ⟨rfl, hb⟩))
        go_ret
        exact ⟨ret_bool HE.out.symm, hb⟩
      | false =>
        have HE : Hid (standsB r false false = (r == 46)) := Lib.hid (by rw [stands_mid h58, hf, Bool.false_or]; exact (Bool.beq_eq_decide_eq _ _).symm)
        clear h58
        go_enter Tryd.func56, Tryd.ntmps56
        go_wp2_with (first | (go_at_call 42; refine (ST.out r _).mono ?_; rintro e w1 ⟨rfl, hb⟩) | (go_at_call 43; refine (DIG.out r _).mono ?_; rintro e w2 ⟨rfl, rfl⟩) | (go_at_call 44; refine (FOL.out r _).mono ?_; rintro e w1 ⟨rfl, hb⟩))
        go_ret
        exact ⟨ret_bool HE.out.symm, hb⟩

/-- the place of an ASCII scalar among those that are escaped; -1: it is none -/
def escIx (r : Int) : Int := Lib.indexByte escs r.toNat.toUInt8
theorem escIx_ok (r : Int) (h0 : 0 ≤ r) (h1 : r < 128) : decide (0 ≤ escIx r) = escB r := by
  have h : ∀ n < 128, decide (0 ≤ escIx ((n : Nat) : Int)) = escB ((n : Nat) : Int) := by decide +kernel
  obtain ⟨n, rfl⟩ := Int.eq_ofNat_of_zero_le h0
  exact h n (by omega)
theorem escB_low (r : Int) (h : escB r = true) : 0 ≤ r ∧ r < 128 := by
  unfold escB at h
  obtain ⟨c, hc, he⟩ := List.any_eq_true.1 h
  have : ∀ c ∈ escs, c.toNat < 128 := by decide
  have := this c hc
  have := beq_iff_eq.1 he
  omega
theorem indexByte_esc (r : Int) (w : World) : Calls Tryd.prog 53 #[.string (B escs), .int .u8 r] w fun e w' => e = .returned (.int .i64 (escIx r)) ∧ w' = w := by
  have h := Tryd.strings_IndexByte (B escs) r w
  rw [B_toList] at h
  exact h

set_option maxHeartbeats 800000 in
theorem escapable_any (r : Int) (w : World) : Calls Tryd.prog 57 #[.int .i64 r] w fun e w' => e = .returned (.bool (escB r)) ∧ w' = w := by
  have hix : ∀ (k : Nat) (hk : k < escs.length) (w : World), (Instr.index 9 (.string ⟨#[95, 126, 46, 45, 33, 36, 38, 39, 40, 41, 42, 43, 44, 59, 61, 47, 63, 35, 64, 37]⟩) (.int .i64 (k : Int))).run Tryd.prog w = .ok (.int .u8 (escs[k].toNat : Int)) w := by
    intro k hk w
    have h := run_index_string (P := Tryd.prog) (w := w) 9 (B escs) .i64 (k : Int) Tryd.underlying9
    rw [dif_pos ⟨by omega, by rw [B_size]; omega⟩] at h
    simp only [Int.toNat_natCast, B_get] at h
    exact h
  have HIX := Lib.hid hix
  clear hix
  go_enter Tryd.func57, Tryd.ntmps57
  go_wp2_with fail
  go_loop [3] (fun i => ∃ k : Nat, i = .int .i64 k ∧ k ≤ 20 ∧ Hid (escB r = (escs.drop k).any fun c => (c.toNat : Int) == r)) (fun i => 20 - (intOf i).toNat)
  case atStart => exact ⟨0, rfl, by omega, rfl⟩
  case round =>
    obtain ⟨k, rfl, hk, HK⟩ := hrel
    by_cases hlt : k < 20
    · have hkl : k < escs.length := hlt
      have hi := HIX.out k hkl w
      have hd := HK.out
      rw [List.drop_eq_getElem_cons hkl, List.any_cons] at hd
      obtain ⟨c, hc⟩ : ∃ c, escs[k] = c := ⟨_, rfl⟩
      rw [hc] at hi hd
      have hcl := c.toNat_lt
      have hcl2 : (c.toNat : Int) < 256 := by omega
      have HD := Lib.hid hd
      clear hd hc HK hkl hcl
      by_cases he : (c.toNat : Int) = r
      · have e1 : ((c.toNat : Int) == r) = true := beq_iff_eq.2 he
        have HE : Hid (escB r = true) := Lib.hid (by rw [HD.out, e1]; rfl)
        clear he HD
        go_wp2_with fail
        go_ret
        exact ⟨ret_bool HE.out.symm, rfl⟩
      · have e1 : ((c.toNat : Int) == r) = false := beq_eq_false_iff_ne.2 he
        have HE : Hid (escB r = (escs.drop (k + 1)).any fun c => (c.toNat : Int) == r) := Lib.hid (by rw [HD.out, e1]; rfl)
        clear he HD
        go_wp2_with fail
        go_round
        case rel => exact ⟨k + 1, by go_num, by omega, HE⟩
        case measure => simp [intOf]; omega
    · have HE : Hid (escB r = false) := Lib.hid (by rw [HK.out, show k = 20 by omega]; rfl)
      clear HK
      go_wp2_with fail
      go_ret
      exact ⟨ret_bool HE.out.symm, rfl⟩
end Go.Proofs.YtfjcbodkjjmagaaDoor
